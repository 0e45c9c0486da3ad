/- FnRecordOrder: what its functions come to, and the row; conditions: none. -/
import Derived.Test.YtdcgngeepbbikaaT03
import Derived.Test.YtdcgngeepbbikaaEz
import Derived.Test.YtdcgngeepbbikaaRows
import Derived.WalkKit
import Derived.ProofKit
import Derived.OpenShut
import Derived.ShutString
import Derived.ChangeOld
import Derived.Below
import Derived.SizedLaws
namespace Go.Proofs.Ytdcgngeepbbikaa.T03
open Go.Proofs.YtdcgngeepbbikaaE
set_option maxRecDepth 100000
set_option linter.unusedVariables false
set_option linter.unusedSimpArgs false

noncomputable def p_spec_l00In (a_0 : Int) (a_1 : Int) (a_2 : Int) : Option Bool :=
  if a_0 ≥ a_1 then
    some (decide (a_0 ≤ a_2))
  else
    some false

set_option maxHeartbeats 4000000 in
theorem L_spec_l00In (a_0 : Int) (a_1 : Int) (a_2 : Int) {r : Bool} (h : p_spec_l00In a_0 a_1 a_2 = some r) : callL E 202 [IN a_0, IN a_1, IN a_2] ([] : Fo) = some (BO r, ([] : Fo)) := by
  unfold p_spec_l00In at h
  refine callW (fu := Try.f202) rfl rfl rfl NN ?_
  intro lp cl hlp hcl
  conv => lhs; whnf
  cases hb1 : (decide (a_0 ≥ a_1))
  · replace h := ifF h (decF hb1); conv => lhs; whnf
    try (rw [hb1]; conv => lhs; whnf)
    try (rw [hb1]; conv => lhs; whnf)
    try (rw [hb1]; conv => lhs; whnf)
    obtain rfl := Option.some.inj h; show _ = _; kernel_rfl

  · replace h := ifT h (decT hb1); conv => lhs; whnf
    try (rw [hb1]; conv => lhs; whnf)
    try (rw [hb1]; conv => lhs; whnf)
    try (rw [hb1]; conv => lhs; whnf)
    obtain rfl := Option.some.inj h; show _ = _; kernel_rfl

theorem pl_l00In (n lo hi : Int) : p_spec_l00In n lo hi = some (inR n lo hi) := by
  unfold p_spec_l00In inR
  split
  · rename_i h; simp [h]
  · rename_i h; simp [h]


noncomputable def p_impl_within (a_0 : Int) (a_1 : Int) (a_2 : Int) : Option Bool :=
  if a_0 ≥ a_1 then
    some (decide (a_0 ≤ a_2))
  else
    some false

set_option maxHeartbeats 4000000 in
theorem L_impl_within (a_0 : Int) (a_1 : Int) (a_2 : Int) {r : Bool} (h : p_impl_within a_0 a_1 a_2 = some r) : callL E 84 [IN a_0, IN a_1, IN a_2] ([] : Fo) = some (BO r, ([] : Fo)) := by
  unfold p_impl_within at h
  refine callW (fu := Try.f84) rfl rfl rfl NN ?_
  intro lp cl hlp hcl
  conv => lhs; whnf
  cases hb1 : (decide (a_0 ≥ a_1))
  · replace h := ifF h (decF hb1); conv => lhs; whnf
    try (rw [hb1]; conv => lhs; whnf)
    try (rw [hb1]; conv => lhs; whnf)
    try (rw [hb1]; conv => lhs; whnf)
    obtain rfl := Option.some.inj h; show _ = _; kernel_rfl

  · replace h := ifT h (decT hb1); conv => lhs; whnf
    try (rw [hb1]; conv => lhs; whnf)
    try (rw [hb1]; conv => lhs; whnf)
    try (rw [hb1]; conv => lhs; whnf)
    obtain rfl := Option.some.inj h; show _ = _; kernel_rfl

theorem pl_within (n lo hi : Int) : p_impl_within n lo hi = some (inR n lo hi) := by
  unfold p_impl_within inR
  split
  · rename_i h; simp [h]
  · rename_i h; simp [h]



def cmpB (a b : ByteArray) : Int := Lib.compareBytes a.data.toList b.data.toList
theorem f_Compare (a b : ByteArray) : callL E 196 [ST a, ST b] [] = some (IN (cmpB a b), []) := callX rfl rfl

theorem f_sortR {f e : Nat} {l : List Record} (he : Go.Proofs.YtdcgngeepbbikaaE.look E.ext f = some (extSortF 103 TK0.decR TK0.encR 5 TK0.cmpR)) (h0 : Nat.beq e U8 = false) (h1 : l.length < 4611686018427387904) : callL E f [.sl 0, .clo 103 []] [some (.arr e 5 (l.map rRecord))] = some (.tup [], [some (.arr e 5 ((TK0.sortR l).map rRecord))]) := callX (g := extSortF 103 TK0.decR TK0.encR 5 TK0.cmpR) he (by
  have e1 : decL TK0.decR (l.map rRecord) = some l := decL_map (f := TK0.decR) (e := rRecord) (fun _ => rfl) l
  have e2 : decide ((l.map rRecord).length < 4611686018427387904) = true := decide_eq_true (by rw [List.length_map]; exact h1)
  simp only [extSortF, e1, h0, e2, show Nat.beq 103 103 = true from rfl, show Nat.beq 5 5 = true from rfl]
  rfl)

structure Sl00Src where
  Code : List Int
  At : Int
  Seed : Int
def rSl00Src (x : Sl00Src) : List D := [.arr (x.Code.map rU), dI x.At, .lit (.int .u64 x.Seed)]
theorem rSl00Src_len : ∀ x, (rSl00Src x).length = 3 := fun _ => rfl

noncomputable def p_spec_l00From (a_0 : List Int) : Option Sl00Src :=
  some (⟨a_0, 0, 0⟩ : Sl00Src)

set_option maxHeartbeats 4000000 in
theorem L_spec_l00From (a_0 : List Int) {r : Sl00Src} (h : p_spec_l00From a_0 = some r) : callL E 79 [.d (.arr (a_0.map rU))] ([] : Fo) = some (.bp 0 0, ([some (.box [.d (.arr (r.Code.map rU)), IN r.At, .d (.lit (.int .u64 r.Seed))])] : Fo)) := by
  unfold p_spec_l00From at h
  refine callW (fu := Try.f79) rfl rfl rfl NN ?_
  intro lp cl hlp hcl
  conv => lhs; whnf
  obtain rfl := Option.some.inj h; show _ = _; kernel_rfl


noncomputable def p_spec_l00Src_next (a_0 : Sl00Src) : Option (Int × Sl00Src) :=
  if a_0.At < (a_0.Code.length : Int) then
    getK a_0.Code a_0.At fun x2 =>
    if (IntKind.i64.wrap (a_0.At + 1)) ≤ (a_0.Code.length : Int) then
      some ((IntKind.i64.wrap x2), (⟨a_0.Code, (IntKind.i64.wrap (a_0.At + 1)), (IntKind.u64.wrap ((IntKind.u64.wrap ((IntKind.u64.wrap (a_0.Seed * 6364136223846793005)) + (IntKind.u64.wrap (IntKind.i64.wrap x2)))) + 1442695040888963407))⟩ : Sl00Src))
    else
      some ((IntKind.i64.wrap (andK .u64 (Int.fdiv (IntKind.u64.wrap ((IntKind.u64.wrap ((IntKind.u64.wrap (a_0.Seed * 6364136223846793005)) + (IntKind.u64.wrap (IntKind.i64.wrap x2)))) + 1442695040888963407)) (2 ^ (min (Int.toNat 40) IntKind.u64.bits))) 255)), (⟨a_0.Code, (IntKind.i64.wrap (a_0.At + 1)), (IntKind.u64.wrap ((IntKind.u64.wrap ((IntKind.u64.wrap (a_0.Seed * 6364136223846793005)) + (IntKind.u64.wrap (IntKind.i64.wrap x2)))) + 1442695040888963407))⟩ : Sl00Src))
  else
    if (IntKind.i64.wrap (a_0.At + 1)) ≤ (a_0.Code.length : Int) then
      some (0, (⟨a_0.Code, (IntKind.i64.wrap (a_0.At + 1)), (IntKind.u64.wrap ((IntKind.u64.wrap ((IntKind.u64.wrap (a_0.Seed * 6364136223846793005)) + (IntKind.u64.wrap 0))) + 1442695040888963407))⟩ : Sl00Src))
    else
      some ((IntKind.i64.wrap (andK .u64 (Int.fdiv (IntKind.u64.wrap ((IntKind.u64.wrap ((IntKind.u64.wrap (a_0.Seed * 6364136223846793005)) + (IntKind.u64.wrap 0))) + 1442695040888963407)) (2 ^ (min (Int.toNat 40) IntKind.u64.bits))) 255)), (⟨a_0.Code, (IntKind.i64.wrap (a_0.At + 1)), (IntKind.u64.wrap ((IntKind.u64.wrap ((IntKind.u64.wrap (a_0.Seed * 6364136223846793005)) + (IntKind.u64.wrap 0))) + 1442695040888963407))⟩ : Sl00Src))

set_option maxHeartbeats 4000000 in
theorem L_spec_l00Src_next (a_0 : Sl00Src) {r : (Int × Sl00Src)} (h : p_spec_l00Src_next a_0 = some r) : callL E 193 [.bp 0 0] ([some (.box [.d (.arr (a_0.Code.map rU)), IN a_0.At, .d (.lit (.int .u64 a_0.Seed))])] : Fo) = some (IN r.1, ([some (.box [.d (.arr (r.2.Code.map rU)), IN r.2.At, .d (.lit (.int .u64 r.2.Seed))])] : Fo)) := by
  unfold p_spec_l00Src_next at h
  refine callW (fu := Try.f193) rfl rfl rfl NN ?_
  intro lp cl hlp hcl
  conv => lhs; whnf
  try rw [len_of (l := a_0.Code) (r := rU)]
  cases hb1 : (decide (a_0.At < (a_0.Code.length : Int)))
  · replace h := ifF h (decF hb1); conv => lhs; whnf
    try rw [len_of (l := a_0.Code) (r := rU)]
    cases hb4 : (decide ((IntKind.i64.wrap (a_0.At + 1)) ≤ (a_0.Code.length : Int)))
    · replace h := ifF h (decF hb4); conv => lhs; whnf
      obtain rfl := Option.some.inj h; show _ = _; kernel_rfl

    · replace h := ifT h (decT hb4); conv => lhs; whnf
      obtain rfl := Option.some.inj h; show _ = _; kernel_rfl

  · replace h := ifT h (decT hb1); conv => lhs; whnf
    obtain ⟨x2, hq_x2, hx_x2', h⟩ := getK_inv h
    have hx_x2 := get_of (r := rU) hx_x2'
    try (rw [decide_eq_true hq_x2]; conv => lhs; whnf)
    rw [hx_x2]
    conv => lhs; whnf
    rw [hx_x2]
    conv => lhs; whnf
    try rw [len_of (l := a_0.Code) (r := rU)]
    cases hb3 : (decide ((IntKind.i64.wrap (a_0.At + 1)) ≤ (a_0.Code.length : Int)))
    · replace h := ifF h (decF hb3); conv => lhs; whnf
      obtain rfl := Option.some.inj h; show _ = _; kernel_rfl

    · replace h := ifT h (decT hb3); conv => lhs; whnf
      obtain rfl := Option.some.inj h; show _ = _; kernel_rfl


noncomputable def p_spec_l00Src_pick (a_0 : Int) (a_1 : Sl00Src) : Option (Int × Sl00Src) :=
  if a_0 ≤ 1 then
    some (0, a_1)
  else
    callK (p_spec_l00Src_next a_1) fun y2 =>
    if a_0 > 200 then
      callK (p_spec_l00Src_next y2.2) fun y4 =>
      grd (a_0 ≠ 0) <|
      some ((Int.tmod (IntKind.i64.wrap ((IntKind.i64.wrap (y2.1 * 256)) + y4.1)) a_0), y4.2)
    else
      grd (a_0 ≠ 0) <|
      some ((Int.tmod y2.1 a_0), y2.2)

set_option maxHeartbeats 4000000 in
theorem L_spec_l00Src_pick (a_0 : Int) (a_1 : Sl00Src) {r : (Int × Sl00Src)} (h : p_spec_l00Src_pick a_0 a_1 = some r) : callL E 101 [.bp 0 0, IN a_0] ([some (.box [.d (.arr (a_1.Code.map rU)), IN a_1.At, .d (.lit (.int .u64 a_1.Seed))])] : Fo) = some (IN r.1, ([some (.box [.d (.arr (r.2.Code.map rU)), IN r.2.At, .d (.lit (.int .u64 r.2.Seed))])] : Fo)) := by
  unfold p_spec_l00Src_pick at h
  refine callW (fu := Try.f101) rfl rfl rfl NN ?_
  intro lp cl hlp hcl
  conv => lhs; whnf
  cases hb1 : (decide (a_0 ≤ 1))
  · replace h := ifF h (decF hb1); conv => lhs; whnf
    obtain ⟨y2, h_y2, h⟩ := callK_inv h
    rw [cl_eq hcl (L_spec_l00Src_next a_1 h_y2)]
    rotate_left
    · show _ = _; kernel_rfl
    · show _ = _; kernel_rfl
    conv => lhs; whnf
    cases hb3 : (decide (a_0 > 200))
    · replace h := ifF h (decF hb3); conv => lhs; whnf
      obtain ⟨hg5, h⟩ := grd_inv h
      rw [rem_run _ _ _ _ hg5]
      conv => lhs; whnf
      obtain rfl := Option.some.inj h; show _ = _; kernel_rfl

    · replace h := ifT h (decT hb3); conv => lhs; whnf
      obtain ⟨y4, h_y4, h⟩ := callK_inv h
      rw [cl_eq hcl (L_spec_l00Src_next y2.2 h_y4)]
      rotate_left
      · show _ = _; kernel_rfl
      · show _ = _; kernel_rfl
      conv => lhs; whnf
      obtain ⟨hg6, h⟩ := grd_inv h
      rw [rem_run _ _ _ _ hg6]
      conv => lhs; whnf
      obtain rfl := Option.some.inj h; show _ = _; kernel_rfl

  · replace h := ifT h (decT hb1); conv => lhs; whnf
    obtain rfl := Option.some.inj h; show _ = _; kernel_rfl

/-- A source of choices from which as many may still be drawn. -/
structure SrcOk (b : Int) (s : Sl00Src) : Prop where
  code : ∀ x ∈ s.Code, 0 ≤ x ∧ x ≤ 255
  len : s.Code.length ≤ 1048576
  lo : 0 ≤ s.At
  hi : s.At + b ≤ 4611686018427387904
theorem SrcOk.le {b c : Int} {s : Sl00Src} (h : SrcOk b s) (hc : c ≤ b) : SrcOk c s := ⟨h.1, h.2, h.3, by have := h.4; omega⟩
theorem nxV_in (sd : Int) : 0 ≤ IntKind.i64.wrap (andK .u64 sd 255) ∧ IntKind.i64.wrap (andK .u64 sd 255) ≤ 255 := by
  unfold andK
  generalize BitVec.ofInt IntKind.u64.bits sd = a
  have h1 : (a &&& BitVec.ofInt IntKind.u64.bits 255).toNat ≤ 255 := by
    rw [BitVec.toNat_and]
    exact Nat.le_trans Nat.and_le_right (by decide)
  generalize (a &&& BitVec.ofInt IntKind.u64.bits 255).toNat = m at h1
  have e1 : IntKind.u64.wrap (m : Int) = m := by unfold IntKind.wrap; simp [IntKind.signed, IntKind.bits]; omega
  rw [e1, wrap_sm _ (by omega) (by omega)]
  omega
theorem next_ok {b : Int} {s : Sl00Src} (hb : 0 ≤ b) (h : SrcOk (b + 1) s) : ∃ v s', p_spec_l00Src_next s = some (v, s') ∧ (0 ≤ v ∧ v ≤ 255) ∧ SrcOk b s' := by
  obtain ⟨h1, h2, h3, h4⟩ := h
  have hw : IntKind.i64.wrap (s.At + 1) = s.At + 1 := wrap_sm _ (by omega) (by omega)
  unfold p_spec_l00Src_next
  rw [hw]
  split
  · rename_i hlt
    rw [getK_in h3 hlt]
    have hb := h1 _ (List.getElem_mem (show s.At.toNat < s.Code.length by omega))
    rw [if_pos (by omega)]
    exact ⟨_, _, rfl, by rw [wrap_sm _ (by omega) (by omega)]; exact hb, h1, h2, by show 0 ≤ s.At + 1; omega, by show s.At + 1 + b ≤ _; omega⟩
  · rename_i hlt
    rw [if_neg (by omega)]
    exact ⟨_, _, rfl, nxV_in _, h1, h2, by show 0 ≤ s.At + 1; omega, by show s.At + 1 + b ≤ _; omega⟩
theorem pick_ok {b : Int} {s : Sl00Src} (m : Int) (hb : 0 ≤ b) (h : SrcOk (b + 2) s) : ∃ r s', p_spec_l00Src_pick m s = some (r, s') ∧ (0 ≤ r ∧ (1 < m → r < m) ∧ (m ≤ 1 → r = 0)) ∧ SrcOk b s' := by
  unfold p_spec_l00Src_pick
  split
  · rename_i hm
    exact ⟨0, s, rfl, ⟨by omega, fun h => by omega, fun _ => rfl⟩, h.le (by omega)⟩
  · rename_i hm
    obtain ⟨v1, s1, e1, b1, o1⟩ := next_ok (b := b + 1) (by omega) (h.le (by omega))
    rw [e1, callK_some]
    split
    · obtain ⟨v2, s2, e2, b2, o2⟩ := next_ok hb o1
      rw [e2, callK_some, grd_pos (by omega)]
      have w1 : IntKind.i64.wrap (v1 * 256) = v1 * 256 := wrap_sm _ (by omega) (by omega)
      have w2 : IntKind.i64.wrap (v1 * 256 + v2) = v1 * 256 + v2 := wrap_sm _ (by omega) (by omega)
      refine ⟨_, _, rfl, ?_, o2⟩
      show 0 ≤ Int.tmod (IntKind.i64.wrap (IntKind.i64.wrap (v1 * 256) + v2)) m ∧ _
      rw [w1, w2]
      exact ⟨Int.tmod_nonneg _ (by omega), fun _ => Int.tmod_lt_of_pos _ (by omega), fun h3 => by omega⟩
    · rw [grd_pos (by omega)]
      exact ⟨_, _, rfl, ⟨Int.tmod_nonneg _ b1.1, fun _ => Int.tmod_lt_of_pos _ (by omega), fun h3 => by omega⟩, o1.le (by omega)⟩
theorem from_ok {code : List Int} (h : ∀ x ∈ code, 0 ≤ x ∧ x ≤ 255) (hl : code.length ≤ 1048576) : ∃ s, p_spec_l00From code = some s ∧ SrcOk 1099511627776 s :=
  ⟨_, rfl, h, hl, by show (0 : Int) ≤ 0; omega, by show (0 : Int) + 1099511627776 ≤ _; omega⟩

noncomputable def p_spec_l00Src_one (a_0 : Int) (a_1 : Sl00Src) : Option (Bool × Sl00Src) :=
  callK (p_spec_l00Src_pick a_0 a_1) fun y1 =>
  some ((y1.1 == 0), y1.2)

set_option maxHeartbeats 4000000 in
theorem L_spec_l00Src_one (a_0 : Int) (a_1 : Sl00Src) {r : (Bool × Sl00Src)} (h : p_spec_l00Src_one a_0 a_1 = some r) : callL E 199 [.bp 0 0, IN a_0] ([some (.box [.d (.arr (a_1.Code.map rU)), IN a_1.At, .d (.lit (.int .u64 a_1.Seed))])] : Fo) = some (BO r.1, ([some (.box [.d (.arr (r.2.Code.map rU)), IN r.2.At, .d (.lit (.int .u64 r.2.Seed))])] : Fo)) := by
  unfold p_spec_l00Src_one at h
  refine callW (fu := Try.f199) rfl rfl rfl NN ?_
  intro lp cl hlp hcl
  conv => lhs; whnf
  obtain ⟨y1, h_y1, h⟩ := callK_inv h
  rw [cl_eq hcl (L_spec_l00Src_pick a_0 a_1 h_y1)]
  rotate_left
  · show _ = _; kernel_rfl
  · show _ = _; kernel_rfl
  conv => lhs; whnf
  obtain rfl := Option.some.inj h; show _ = _; kernel_rfl

theorem one_ok {b : Int} {s : Sl00Src} (m : Int) (hb : 0 ≤ b) (h : SrcOk (b + 2) s) : ∃ r s', p_spec_l00Src_one m s = some (r, s') ∧ SrcOk b s' := by
  obtain ⟨r, s1, e1, _, o1⟩ := pick_ok m hb h
  unfold p_spec_l00Src_one
  rw [e1, callK_some]
  exact ⟨_, _, rfl, o1⟩

noncomputable def p_spec_l00Src_text (a_0 : List ByteArray) (a_1 : Sl00Src) : Option (ByteArray × Sl00Src) :=
  callK (p_spec_l00Src_pick (a_0.length : Int) a_1) fun y1 =>
  getK a_0 y1.1 fun x2 =>
  some (x2, y1.2)

set_option maxHeartbeats 4000000 in
theorem L_spec_l00Src_text (a_0 : List ByteArray) (a_1 : Sl00Src) {r : (ByteArray × Sl00Src)} (h : p_spec_l00Src_text a_0 a_1 = some r) : callL E 194 [.bp 0 0, .d (.arr (a_0.map rS))] ([some (.box [.d (.arr (a_1.Code.map rU)), IN a_1.At, .d (.lit (.int .u64 a_1.Seed))])] : Fo) = some (ST r.1, ([some (.box [.d (.arr (r.2.Code.map rU)), IN r.2.At, .d (.lit (.int .u64 r.2.Seed))])] : Fo)) := by
  unfold p_spec_l00Src_text at h
  refine callW (fu := Try.f194) rfl rfl rfl NN ?_
  intro lp cl hlp hcl
  conv => lhs; whnf
  try rw [len_of (l := a_0) (r := rS)]
  obtain ⟨y1, h_y1, h⟩ := callK_inv h
  rw [cl_eq hcl (L_spec_l00Src_pick (a_0.length : Int) a_1 h_y1)]
  rotate_left
  · show _ = _; kernel_rfl
  · show _ = _; kernel_rfl
  conv => lhs; whnf
  obtain ⟨x2, hq_x2, hx_x2', h⟩ := getK_inv h
  have hx_x2 := get_of (r := rS) hx_x2'
  try (rw [decide_eq_true hq_x2]; conv => lhs; whnf)
  rw [hx_x2]
  conv => lhs; whnf
  rw [hx_x2]
  conv => lhs; whnf
  obtain rfl := Option.some.inj h; show _ = _; kernel_rfl


noncomputable def p_spec_l17DrawKey (a_0 : Sl00Src) : Option (ByteArray × Sl00Src) :=
  callK (p_spec_l00Src_text ([(⟨#[97]⟩ : ByteArray), (⟨#[98]⟩ : ByteArray), (⟨#[99]⟩ : ByteArray), (⟨#[100]⟩ : ByteArray), (⟨#[101]⟩ : ByteArray), (⟨#[97, 98]⟩ : ByteArray), (⟨#[98, 49]⟩ : ByteArray), (⟨#[107, 101, 121, 56, 98, 121, 116, 101]⟩ : ByteArray), (⟨#[0]⟩ : ByteArray), (⟨#[255, 255]⟩ : ByteArray)] : List ByteArray) a_0) fun y1 =>
  some (y1.1, y1.2)

set_option maxHeartbeats 4000000 in
theorem L_spec_l17DrawKey (a_0 : Sl00Src) {r : (ByteArray × Sl00Src)} (h : p_spec_l17DrawKey a_0 = some r) : callL E 145 [.bp 0 0] ([some (.box [.d (.arr (a_0.Code.map rU)), IN a_0.At, .d (.lit (.int .u64 a_0.Seed))])] : Fo) = some (ST r.1, ([some (.box [.d (.arr (r.2.Code.map rU)), IN r.2.At, .d (.lit (.int .u64 r.2.Seed))])] : Fo)) := by
  unfold p_spec_l17DrawKey at h
  refine callW (fu := Try.f145) rfl rfl rfl NN ?_
  intro lp cl hlp hcl
  conv => lhs; whnf
  obtain ⟨y1, h_y1, h⟩ := callK_inv h
  rw [cl_eq hcl (L_spec_l00Src_text ([(⟨#[97]⟩ : ByteArray), (⟨#[98]⟩ : ByteArray), (⟨#[99]⟩ : ByteArray), (⟨#[100]⟩ : ByteArray), (⟨#[101]⟩ : ByteArray), (⟨#[97, 98]⟩ : ByteArray), (⟨#[98, 49]⟩ : ByteArray), (⟨#[107, 101, 121, 56, 98, 121, 116, 101]⟩ : ByteArray), (⟨#[0]⟩ : ByteArray), (⟨#[255, 255]⟩ : ByteArray)] : List ByteArray) a_0 h_y1)]
  rotate_left
  · show _ = _; kernel_rfl
  · show _ = _; kernel_rfl
  conv => lhs; whnf
  obtain rfl := Option.some.inj h; show _ = _; kernel_rfl


noncomputable def p_spec_l00Src_among (a_0 : List Int) (a_1 : Sl00Src) : Option (Int × Sl00Src) :=
  callK (p_spec_l00Src_pick (a_0.length : Int) a_1) fun y1 =>
  getK a_0 y1.1 fun x2 =>
  some (x2, y1.2)

set_option maxHeartbeats 4000000 in
theorem L_spec_l00Src_among (a_0 : List Int) (a_1 : Sl00Src) {r : (Int × Sl00Src)} (h : p_spec_l00Src_among a_0 a_1 = some r) : callL E 161 [.bp 0 0, .d (.arr (a_0.map rI))] ([some (.box [.d (.arr (a_1.Code.map rU)), IN a_1.At, .d (.lit (.int .u64 a_1.Seed))])] : Fo) = some (IN r.1, ([some (.box [.d (.arr (r.2.Code.map rU)), IN r.2.At, .d (.lit (.int .u64 r.2.Seed))])] : Fo)) := by
  unfold p_spec_l00Src_among at h
  refine callW (fu := Try.f161) rfl rfl rfl NN ?_
  intro lp cl hlp hcl
  conv => lhs; whnf
  try rw [len_of (l := a_0) (r := rI)]
  obtain ⟨y1, h_y1, h⟩ := callK_inv h
  rw [cl_eq hcl (L_spec_l00Src_pick (a_0.length : Int) a_1 h_y1)]
  rotate_left
  · show _ = _; kernel_rfl
  · show _ = _; kernel_rfl
  conv => lhs; whnf
  obtain ⟨x2, hq_x2, hx_x2', h⟩ := getK_inv h
  have hx_x2 := get_of (r := rI) hx_x2'
  try (rw [decide_eq_true hq_x2]; conv => lhs; whnf)
  rw [hx_x2]
  conv => lhs; whnf
  rw [hx_x2]
  conv => lhs; whnf
  obtain rfl := Option.some.inj h; show _ = _; kernel_rfl


noncomputable def p_spec_l17Draw (a_0 : Int) (a_1 : Sl00Src) : Option (Record × Sl00Src) :=
  callK (p_spec_l17DrawKey a_1) fun y1 =>
  callK (p_spec_l00Src_among ([1, 1, 1, 2, 3] : List Int) y1.2) fun y2 =>
  if y2.1 = 1 then
    callK (p_spec_l00Src_text ([(⟨#[]⟩ : ByteArray), (⟨#[49]⟩ : ByteArray), (⟨#[116, 119, 111]⟩ : ByteArray), (⟨#[115, 105, 120, 116, 101, 101, 110, 32, 98, 121, 116, 101, 115, 32, 111, 107]⟩ : ByteArray), (⟨#[0]⟩ : ByteArray)] : List ByteArray) y2.2) fun y4 =>
    some ((⟨y1.1, a_0, y2.1, y4.1, (⟨#[]⟩ : ByteArray)⟩ : Record), y4.2)
  else
    if y2.1 = 3 then
      callK (p_spec_l00Src_text ([(⟨#[97]⟩ : ByteArray), (⟨#[98]⟩ : ByteArray), (⟨#[97, 98]⟩ : ByteArray), (⟨#[99]⟩ : ByteArray)] : List ByteArray) y2.2) fun y6 =>
      callK (p_spec_l00Src_text ([(⟨#[100]⟩ : ByteArray), (⟨#[101]⟩ : ByteArray), (⟨#[98, 49, 0]⟩ : ByteArray), (⟨#[255]⟩ : ByteArray)] : List ByteArray) y6.2) fun y7 =>
      if (Op.bytesLess y6.1.toList y7.1.toList) = true then
        some ((⟨y6.1, a_0, y2.1, (⟨#[]⟩ : ByteArray), y7.1⟩ : Record), y7.2)
      else
        some ((⟨y6.1, a_0, y2.1, (⟨#[]⟩ : ByteArray), (⟨#[255]⟩ : ByteArray)⟩ : Record), y7.2)
    else
      some ((⟨y1.1, a_0, y2.1, (⟨#[]⟩ : ByteArray), (⟨#[]⟩ : ByteArray)⟩ : Record), y2.2)

set_option maxHeartbeats 4000000 in
theorem L_spec_l17Draw (a_0 : Int) (a_1 : Sl00Src) {r : (Record × Sl00Src)} (h : p_spec_l17Draw a_0 a_1 = some r) : callL E 102 [.bp 0 0, IN a_0] ([some (.box [.d (.arr (a_1.Code.map rU)), IN a_1.At, .d (.lit (.int .u64 a_1.Seed))])] : Fo) = some (.agg [ST r.1.Key, IN r.1.Seq, IN r.1.Kind, ST r.1.Value, ST r.1.End], ([some (.box [.d (.arr (r.2.Code.map rU)), IN r.2.At, .d (.lit (.int .u64 r.2.Seed))])] : Fo)) := by
  unfold p_spec_l17Draw at h
  refine callW (fu := Try.f102) rfl rfl rfl NN ?_
  intro lp cl hlp hcl
  conv => lhs; whnf
  obtain ⟨y1, h_y1, h⟩ := callK_inv h
  rw [cl_eq hcl (L_spec_l17DrawKey a_1 h_y1)]
  rotate_left
  · show _ = _; kernel_rfl
  · show _ = _; kernel_rfl
  conv => lhs; whnf
  obtain ⟨y2, h_y2, h⟩ := callK_inv h
  rw [cl_eq hcl (L_spec_l00Src_among ([1, 1, 1, 2, 3] : List Int) y1.2 h_y2)]
  rotate_left
  · show _ = _; kernel_rfl
  · show _ = _; kernel_rfl
  conv => lhs; whnf
  cases hb3 : (y2.1 == 1)
  · replace h := ifF h (beqF hb3); conv => lhs; whnf
    cases hb5 : (y2.1 == 3)
    · replace h := ifF h (beqF hb5); conv => lhs; whnf
      obtain rfl := Option.some.inj h; show _ = _; kernel_rfl

    · replace h := ifT h (beqT hb5); conv => lhs; whnf
      obtain ⟨y6, h_y6, h⟩ := callK_inv h
      rw [cl_eq hcl (L_spec_l00Src_text ([(⟨#[97]⟩ : ByteArray), (⟨#[98]⟩ : ByteArray), (⟨#[97, 98]⟩ : ByteArray), (⟨#[99]⟩ : ByteArray)] : List ByteArray) y2.2 h_y6)]
      rotate_left
      · show _ = _; kernel_rfl
      · show _ = _; kernel_rfl
      conv => lhs; whnf
      obtain ⟨y7, h_y7, h⟩ := callK_inv h
      rw [cl_eq hcl (L_spec_l00Src_text ([(⟨#[100]⟩ : ByteArray), (⟨#[101]⟩ : ByteArray), (⟨#[98, 49, 0]⟩ : ByteArray), (⟨#[255]⟩ : ByteArray)] : List ByteArray) y6.2 h_y7)]
      rotate_left
      · show _ = _; kernel_rfl
      · show _ = _; kernel_rfl
      conv => lhs; whnf
      cases hb8 : (Op.bytesLess y6.1.toList y7.1.toList)
      · replace h := ifF h (booF hb8); conv => lhs; whnf
        obtain rfl := Option.some.inj h; show _ = _; kernel_rfl

      · replace h := ifT h hb8; conv => lhs; whnf
        obtain rfl := Option.some.inj h; show _ = _; kernel_rfl

  · replace h := ifT h (beqT hb3); conv => lhs; whnf
    obtain ⟨y4, h_y4, h⟩ := callK_inv h
    rw [cl_eq hcl (L_spec_l00Src_text ([(⟨#[]⟩ : ByteArray), (⟨#[49]⟩ : ByteArray), (⟨#[116, 119, 111]⟩ : ByteArray), (⟨#[115, 105, 120, 116, 101, 101, 110, 32, 98, 121, 116, 101, 115, 32, 111, 107]⟩ : ByteArray), (⟨#[0]⟩ : ByteArray)] : List ByteArray) y2.2 h_y4)]
    rotate_left
    · show _ = _; kernel_rfl
    · show _ = _; kernel_rfl
    conv => lhs; whnf
    obtain rfl := Option.some.inj h; show _ = _; kernel_rfl


noncomputable def p_spec_A8Record (a_0 : List Int) : Option Record :=
  callK (p_spec_l00From a_0) fun y1 =>
  callK (p_spec_l00Src_pick 50 y1) fun y2 =>
  callK (p_spec_l17Draw (IntKind.i64.wrap (1 + y2.1)) y2.2) fun y3 =>
  some y3.1

set_option maxHeartbeats 4000000 in
theorem L_spec_A8Record (a_0 : List Int) {r : Record} (h : p_spec_A8Record a_0 = some r) : callL E 29 [.d (.arr (a_0.map rU))] ([] : Fo) = some (.agg [ST r.Key, IN r.Seq, IN r.Kind, ST r.Value, ST r.End], ([] : Fo)) := by
  unfold p_spec_A8Record at h
  refine callW (fu := Try.f29) rfl rfl rfl NN ?_
  intro lp cl hlp hcl
  conv => lhs; whnf
  obtain ⟨y1, h_y1, h⟩ := callK_inv h
  rw [cl_eq hcl (L_spec_l00From a_0 h_y1)]
  rotate_left
  · show _ = _; kernel_rfl
  · show _ = _; kernel_rfl
  conv => lhs; whnf
  obtain ⟨y2, h_y2, h⟩ := callK_inv h
  rw [cl_eq hcl (L_spec_l00Src_pick 50 y1 h_y2)]
  rotate_left
  · show _ = _; kernel_rfl
  · show _ = _; kernel_rfl
  conv => lhs; whnf
  obtain ⟨y3, h_y3, h⟩ := callK_inv h
  rw [cl_eq hcl (L_spec_l17Draw (IntKind.i64.wrap (1 + y2.1)) y2.2 h_y3)]
  rotate_left
  · show _ = _; kernel_rfl
  · show _ = _; kernel_rfl
  conv => lhs; whnf
  obtain rfl := Option.some.inj h; show _ = _; kernel_rfl


noncomputable def p_laws_a8At (a_0 : List Int) (a_1 : Int) (a_2 : Int) : Option Int :=
  if a_2 ≤ 1 then
    some 0
  else
    grd (a_0.length < 4611686018427387904) <|
    forK a_0 (fun (i6 : Nat) x9 (v7 : Int) (nx8 : Int → Option _) =>
      nx8 (Int.tmod (IntKind.i64.wrap ((IntKind.i64.wrap (v7 * 31)) + (IntKind.i64.wrap x9))) 1000003)) (IntKind.i64.wrap ((IntKind.i64.wrap (a_1 * 7)) + 3)) (fun (v7 : Int) =>
      grd (a_2 ≠ 0) <|
      some (Int.tmod v7 a_2))

set_option maxHeartbeats 4000000 in
theorem L_laws_a8At (a_0 : List Int) (a_1 : Int) (a_2 : Int) {r : Int} (h : p_laws_a8At a_0 a_1 a_2 = some r) : callL E 61 [.d (.arr (a_0.map rU)), IN a_1, IN a_2] ([] : Fo) = some (IN r, ([] : Fo)) := by
  unfold p_laws_a8At at h
  refine callW (fu := Try.f61) rfl rfl rfl NN ?_
  intro lp cl hlp hcl
  conv => lhs; whnf
  cases hb1 : (decide (a_2 ≤ 1))
  · replace h := ifF h (decF hb1); conv => lhs; whnf
    obtain ⟨hl_i6, h⟩ := grd_inv h
    refine loop_for hlp (l := a_0) hl_i6 (fun (i6 : Nat) (v7 : Int) => ([.d (.arr (a_0.map rU)), .dead, IN a_2, .dead, .dead, .dead, .dead, IN v7, IN (i6 : Int)] ++ List.replicate 23 .dead : List V)) (fun (i6 : Nat) (v7 : Int) => ([] : Fo)) (fun (r : Int) => ((IN r : V), ([] : Fo))) ?_ ?_ (IntKind.i64.wrap ((IntKind.i64.wrap (a_1 * 7)) + 3)) _ (fun kk => by kernel_rfl) h
    · clear h
      rintro next_nx8 nx8 i6 hi_i6 hnx8 v7 r h
      try dsimp only at h
      have hn_i6 : i6 < 4611686018427387904 := by omega
      have hx_x9 := get_map rU a_0 i6 hi_i6
      generalize a_0[i6] = x9 at h hx_x9
      have hd_i6 : (decide ((i6 : Int) < (a_0.length : Int))) = true := decide_eq_true (by omega)
      conv => lhs; whnf
      try rw [len_of (l := a_0) (r := rU)]
      try (first | rw [hd_i6] | (split; (first | (rename_i hx; exact absurd (hd_i6.symm.trans hx) (by decide)) | (rotate_left; rename_i hx; exact absurd (hd_i6.symm.trans hx) (by decide)))))
      conv => lhs; whnf
      try (rw [decide_eq_true hq_x9]; conv => lhs; whnf)
      rw [hx_x9]
      conv => lhs; whnf
      rw [hx_x9]
      conv => lhs; whnf
      try (rw [rem_run _ _ _ 1000003 (by decide)]; conv => lhs; whnf)
      conv => lhs; whnf
      rw [wrap_nat i6 (by have := hn_i6; omega)]
      exact hnx8 _ _ _ _ (fun kk => by kernel_rfl) h
    · clear h
      rintro next_nx8 v7 r h
      try dsimp only at h
      have hd_i6 : (decide ((a_0.length : Int) < (a_0.length : Int))) = false := decide_eq_false (by omega)
      conv => lhs; whnf
      try rw [len_of (l := a_0) (r := rU)]
      try (first | rw [hd_i6] | (split; (first | (rename_i hx; exact absurd (hd_i6.symm.trans hx) (by decide)) | (rotate_left; rename_i hx; exact absurd (hd_i6.symm.trans hx) (by decide)))))
      conv => lhs; whnf
      obtain ⟨hg10, h⟩ := grd_inv h
      rw [rem_run _ _ _ _ hg10]
      conv => lhs; whnf
      obtain rfl := Option.some.inj h; show _ = _; kernel_rfl

  · replace h := ifT h (decT hb1); conv => lhs; whnf
    obtain rfl := Option.some.inj h; show _ = _; kernel_rfl


noncomputable def p_laws_a8Mix (a_0 : List Int) (a_1 : Int) : Option (List Int) :=
  callK (p_laws_a8At a_0 a_1 256) fun y1 =>
  grd (appOk (2 + a_0.length) 1 = true) <|
  some (([(IntKind.u8.wrap a_1), (IntKind.u8.wrap y1)] : List Int) ++ a_0)

set_option maxHeartbeats 4000000 in
theorem L_laws_a8Mix (a_0 : List Int) (a_1 : Int) {r : (List Int)} (h : p_laws_a8Mix a_0 a_1 = some r) : callL E 14 [.d (.arr (a_0.map rU)), IN a_1] ([] : Fo) = some (.d (.arr (r.map rU)), ([] : Fo)) := by
  unfold p_laws_a8Mix at h
  refine callW (fu := Try.f14) rfl rfl rfl NN ?_
  intro lp cl hlp hcl
  conv => lhs; whnf
  obtain ⟨y1, h_y1, h⟩ := callK_inv h
  rw [cl_eq hcl (L_laws_a8At a_0 a_1 256 h_y1)]
  rotate_left
  · show _ = _; kernel_rfl
  · show _ = _; kernel_rfl
  conv => lhs; whnf
  obtain ⟨hg2, h⟩ := grd_inv h
  rw [app_eq hg2 ?h1 ?h2]
  case h1 => first | exact rfl | (simp only [List.length_map, List.length_cons, List.length_nil]; done) | (rw [List.length_map]; rfl)
  case h2 => exact rfl
  conv => lhs; whnf
  rw [allLen_map rU _ rU_len]
  conv => lhs; whnf
  first | (rw [map_app_of (r := rU) (l := ([(IntKind.u8.wrap a_1), (IntKind.u8.wrap y1)] : List Int)) (m := a_0) ?hh]; case hh => exact rfl) | skip
  obtain rfl := Option.some.inj h; show _ = _; kernel_rfl


noncomputable def p_cmp_isNaN (a_0 : Int) : Option Bool :=
  some (a_0 != a_0)

set_option maxHeartbeats 4000000 in
theorem L_cmp_isNaN (a_0 : Int) {r : Bool} (h : p_cmp_isNaN a_0 = some r) : callL E 257 [IN a_0] ([] : Fo) = some (BO r, ([] : Fo)) := by
  unfold p_cmp_isNaN at h
  refine callW (fu := Try.f257) rfl rfl rfl NN ?_
  intro lp cl hlp hcl
  conv => lhs; whnf
  obtain rfl := Option.some.inj h; show _ = _; kernel_rfl


noncomputable def p_cmp_Compare (a_0 : Int) (a_1 : Int) : Option Int :=
  callK (p_cmp_isNaN a_0) fun y1 =>
  callK (p_cmp_isNaN a_1) fun y2 =>
  if y1 = true then
    if y2 = true then
      some 0
    else
      some (-1)
  else
    if y2 = true then
      some 1
    else
      if a_0 < a_1 then
        some (-1)
      else
        if a_0 > a_1 then
          some 1
        else
          some 0

set_option maxHeartbeats 4000000 in
theorem L_cmp_Compare (a_0 : Int) (a_1 : Int) {r : Int} (h : p_cmp_Compare a_0 a_1 = some r) : callL E 197 [IN a_0, IN a_1] ([] : Fo) = some (IN r, ([] : Fo)) := by
  unfold p_cmp_Compare at h
  refine callW (fu := Try.f197) rfl rfl rfl NN ?_
  intro lp cl hlp hcl
  conv => lhs; whnf
  obtain ⟨y1, h_y1, h⟩ := callK_inv h
  rw [cl_eq hcl (L_cmp_isNaN a_0 h_y1)]
  rotate_left
  · show _ = _; kernel_rfl
  · show _ = _; kernel_rfl
  conv => lhs; whnf
  obtain ⟨y2, h_y2, h⟩ := callK_inv h
  rw [cl_eq hcl (L_cmp_isNaN a_1 h_y2)]
  rotate_left
  · show _ = _; kernel_rfl
  · show _ = _; kernel_rfl
  conv => lhs; whnf
  cases hb3 : y1
  · replace h := ifF h (booF hb3); conv => lhs; whnf
    cases hb5 : y2
    · replace h := ifF h (booF hb5); conv => lhs; whnf
      cases hb6 : (decide (a_0 < a_1))
      · replace h := ifF h (decF hb6); conv => lhs; whnf
        cases hb7 : (decide (a_0 > a_1))
        · replace h := ifF h (decF hb7); conv => lhs; whnf
          obtain rfl := Option.some.inj h; show _ = _; kernel_rfl

        · replace h := ifT h (decT hb7); conv => lhs; whnf
          obtain rfl := Option.some.inj h; show _ = _; kernel_rfl

      · replace h := ifT h (decT hb6); conv => lhs; whnf
        obtain rfl := Option.some.inj h; show _ = _; kernel_rfl

    · replace h := ifT h hb5; conv => lhs; whnf
      obtain rfl := Option.some.inj h; show _ = _; kernel_rfl

  · replace h := ifT h hb3; conv => lhs; whnf
    cases hb4 : y2
    · replace h := ifF h (booF hb4); conv => lhs; whnf
      obtain rfl := Option.some.inj h; show _ = _; kernel_rfl

    · replace h := ifT h hb4; conv => lhs; whnf
      obtain rfl := Option.some.inj h; show _ = _; kernel_rfl


noncomputable def p_cmp_Or (a_0 : List Int) : Option Int :=
  grd (a_0.length < 4611686018427387904) <|
  forK a_0 (fun (i5 : Nat) x7 (_ : Unit) (nx6 : Unit → Option _) =>
    if ¬ x7 = 0 then
      some x7
    else
      nx6 ()) () (fun (_ : Unit) =>
    some 0)

set_option maxHeartbeats 4000000 in
theorem L_cmp_Or (a_0 : List Int) {r : Int} (h : p_cmp_Or a_0 = some r) : callL E 195 [.d (.arr (a_0.map rI))] ([] : Fo) = some (IN r, ([] : Fo)) := by
  unfold p_cmp_Or at h
  refine callW (fu := Try.f195) rfl rfl rfl NN ?_
  intro lp cl hlp hcl
  conv => lhs; whnf
  try rw [len_of (l := a_0) (r := rI)]
  obtain ⟨hl_i5, h⟩ := grd_inv h
  refine loop_for hlp (l := a_0) hl_i5 (fun (i5 : Nat) (_ : Unit) => ([.dead, .dead, .dead, IN 0, .dead, .dead, .d (.arr (a_0.map rI)), IN (a_0.length : Int), IN (i5 : Int)] ++ List.replicate 9 .dead : List V)) (fun (i5 : Nat) (_ : Unit) => ([] : Fo)) (fun (r : Int) => ((IN r : V), ([] : Fo))) ?_ ?_ () _ (fun kk => by kernel_rfl) h
  · clear h
    rintro next_nx6 nx6 i5 hi_i5 hnx6 ⟨⟩ r h
    try dsimp only at h
    have hn_i5 : i5 < 4611686018427387904 := by omega
    have hx_x7 := get_map rI a_0 i5 hi_i5
    generalize a_0[i5] = x7 at h hx_x7
    have hd_i5 : (decide ((i5 : Int) < (a_0.length : Int))) = true := decide_eq_true (by omega)
    conv => lhs; whnf
    try (first | rw [hd_i5] | (split; (first | (rename_i hx; exact absurd (hd_i5.symm.trans hx) (by decide)) | (rotate_left; rename_i hx; exact absurd (hd_i5.symm.trans hx) (by decide)))))
    conv => lhs; whnf
    try (rw [decide_eq_true hq_x7]; conv => lhs; whnf)
    rw [hx_x7]
    conv => lhs; whnf
    rw [hx_x7]
    conv => lhs; whnf
    cases hb8 : (x7 != 0)
    · replace h := ifF h ((fun h => not_not_intro (bneF h)) hb8); conv => lhs; whnf
      rw [wrap_nat i5 (by have := hn_i5; omega)]
      exact hnx6 _ _ _ _ (fun kk => by kernel_rfl) h
    · replace h := ifT h (bneT hb8); conv => lhs; whnf
      obtain rfl := Option.some.inj h; show _ = _; kernel_rfl

  · clear h
    rintro next_nx6 ⟨⟩ r h
    try dsimp only at h
    have hd_i5 : (decide ((a_0.length : Int) < (a_0.length : Int))) = false := decide_eq_false (by omega)
    conv => lhs; whnf
    try (first | rw [hd_i5] | (split; (first | (rename_i hx; exact absurd (hd_i5.symm.trans hx) (by decide)) | (rotate_left; rename_i hx; exact absurd (hd_i5.symm.trans hx) (by decide)))))
    conv => lhs; whnf
    obtain rfl := Option.some.inj h; show _ = _; kernel_rfl


noncomputable def p_impl_compareRecords (a_0 : Record) (a_1 : Record) : Option Int :=
  callK (p_cmp_Compare a_1.Seq a_0.Seq) fun y1 =>
  callK (p_cmp_Compare a_0.Kind a_1.Kind) fun y2 =>
  callK (p_cmp_Or ([(cmpB a_0.Key a_1.Key), y1, y2, (cmpB a_0.Value a_1.Value), (cmpB a_0.End a_1.End)] : List Int)) fun y3 =>
  some y3

set_option maxHeartbeats 4000000 in
theorem L_impl_compareRecords (a_0 : Record) (a_1 : Record) {r : Int} (h : p_impl_compareRecords a_0 a_1 = some r) : callL E 103 [.agg [ST a_0.Key, IN a_0.Seq, IN a_0.Kind, ST a_0.Value, ST a_0.End], .agg [ST a_1.Key, IN a_1.Seq, IN a_1.Kind, ST a_1.Value, ST a_1.End]] ([] : Fo) = some (IN r, ([] : Fo)) := by
  unfold p_impl_compareRecords at h
  refine callW (fu := Try.f103) rfl rfl rfl NN ?_
  intro lp cl hlp hcl
  conv => lhs; whnf
  rw [cl_eq hcl (f_Compare a_0.Key a_1.Key)]
  rotate_left
  · exact rfl
  · exact rfl
  conv => lhs; whnf
  obtain ⟨y1, h_y1, h⟩ := callK_inv h
  rw [cl_eq hcl (L_cmp_Compare a_1.Seq a_0.Seq h_y1)]
  rotate_left
  · show _ = _; kernel_rfl
  · show _ = _; kernel_rfl
  conv => lhs; whnf
  obtain ⟨y2, h_y2, h⟩ := callK_inv h
  rw [cl_eq hcl (L_cmp_Compare a_0.Kind a_1.Kind h_y2)]
  rotate_left
  · show _ = _; kernel_rfl
  · show _ = _; kernel_rfl
  conv => lhs; whnf
  rw [cl_eq hcl (f_Compare a_0.Value a_1.Value)]
  rotate_left
  · exact rfl
  · exact rfl
  conv => lhs; whnf
  rw [cl_eq hcl (f_Compare a_0.End a_1.End)]
  rotate_left
  · exact rfl
  · exact rfl
  conv => lhs; whnf
  obtain ⟨y3, h_y3, h⟩ := callK_inv h
  rw [cl_eq hcl (L_cmp_Or ([(cmpB a_0.Key a_1.Key), y1, y2, (cmpB a_0.Value a_1.Value), (cmpB a_0.End a_1.End)] : List Int) h_y3)]
  rotate_left
  · show _ = _; kernel_rfl
  · show _ = _; kernel_rfl
  conv => lhs; whnf
  obtain rfl := Option.some.inj h; show _ = _; kernel_rfl


noncomputable def p_impl_LessRecord (a_0 : Record) (a_1 : Record) : Option Bool :=
  callK (p_impl_compareRecords a_0 a_1) fun y1 =>
  some (decide (y1 < 0))

set_option maxHeartbeats 4000000 in
theorem L_impl_LessRecord (a_0 : Record) (a_1 : Record) {r : Bool} (h : p_impl_LessRecord a_0 a_1 = some r) : callL E 30 [.agg [ST a_0.Key, IN a_0.Seq, IN a_0.Kind, ST a_0.Value, ST a_0.End], .agg [ST a_1.Key, IN a_1.Seq, IN a_1.Kind, ST a_1.Value, ST a_1.End]] ([] : Fo) = some (BO r, ([] : Fo)) := by
  unfold p_impl_LessRecord at h
  refine callW (fu := Try.f30) rfl rfl rfl NN ?_
  intro lp cl hlp hcl
  conv => lhs; whnf
  obtain ⟨y1, h_y1, h⟩ := callK_inv h
  rw [cl_eq hcl (L_impl_compareRecords a_0 a_1 h_y1)]
  rotate_left
  · show _ = _; kernel_rfl
  · show _ = _; kernel_rfl
  conv => lhs; whnf
  obtain rfl := Option.some.inj h; show _ = _; kernel_rfl


noncomputable def p_spec_l17Any (a_0 : Sl00Src) : Option (Record × Sl00Src) :=
  callK (p_spec_l00Src_pick 40 a_0) fun y1 =>
  callK (p_spec_l17Draw (IntKind.i64.wrap (1 + y1.1)) y1.2) fun y2 =>
  callK (p_spec_l00Src_pick 14 y2.2) fun y3 =>
  if y3.1 = 0 then
    callK (p_spec_l00Src_text ([(⟨#[]⟩ : ByteArray), (⟨#[110, 105, 110, 101, 98, 121, 116, 101, 115]⟩ : ByteArray), (⟨#[97]⟩ : ByteArray)] : List ByteArray) y3.2) fun y5 =>
    some ((⟨y5.1, y2.1.Seq, y2.1.Kind, y2.1.Value, y2.1.End⟩ : Record), y5.2)
  else
    if y3.1 = 1 then
      callK (p_spec_l00Src_among ([0, (-1), 1000000, 1000001, 1099511627776] : List Int) y3.2) fun y7 =>
      some ((⟨y2.1.Key, y7.1, y2.1.Kind, y2.1.Value, y2.1.End⟩ : Record), y7.2)
    else
      if y3.1 = 2 then
        callK (p_spec_l00Src_pick 6 y3.2) fun y9 =>
        some ((⟨y2.1.Key, y2.1.Seq, (IntKind.i64.wrap (y9.1 - 1)), y2.1.Value, y2.1.End⟩ : Record), y9.2)
      else
        if y3.1 = 3 then
          callK (p_spec_l00Src_text ([(⟨#[]⟩ : ByteArray), (⟨#[120]⟩ : ByteArray), (⟨#[115, 101, 118, 101, 110, 116, 101, 101, 110, 32, 98, 121, 116, 101, 115, 33, 33]⟩ : ByteArray)] : List ByteArray) y3.2) fun y11 =>
          some ((⟨y2.1.Key, y2.1.Seq, y2.1.Kind, y11.1, y2.1.End⟩ : Record), y11.2)
        else
          if y3.1 = 4 then
            callK (p_spec_l00Src_text ([(⟨#[]⟩ : ByteArray), (⟨#[97]⟩ : ByteArray), (⟨#[110, 105, 110, 101, 98, 121, 116, 101, 115]⟩ : ByteArray)] : List ByteArray) y3.2) fun y13 =>
            some ((⟨y2.1.Key, y2.1.Seq, y2.1.Kind, y2.1.Value, y13.1⟩ : Record), y13.2)
          else
            some (y2.1, y3.2)

set_option maxHeartbeats 4000000 in
theorem L_spec_l17Any (a_0 : Sl00Src) {r : (Record × Sl00Src)} (h : p_spec_l17Any a_0 = some r) : callL E 198 [.bp 0 0] ([some (.box [.d (.arr (a_0.Code.map rU)), IN a_0.At, .d (.lit (.int .u64 a_0.Seed))])] : Fo) = some (.agg [ST r.1.Key, IN r.1.Seq, IN r.1.Kind, ST r.1.Value, ST r.1.End], ([some (.box [.d (.arr (r.2.Code.map rU)), IN r.2.At, .d (.lit (.int .u64 r.2.Seed))])] : Fo)) := by
  unfold p_spec_l17Any at h
  refine callW (fu := Try.f198) rfl rfl rfl NN ?_
  intro lp cl hlp hcl
  conv => lhs; whnf
  obtain ⟨y1, h_y1, h⟩ := callK_inv h
  rw [cl_eq hcl (L_spec_l00Src_pick 40 a_0 h_y1)]
  rotate_left
  · show _ = _; kernel_rfl
  · show _ = _; kernel_rfl
  conv => lhs; whnf
  obtain ⟨y2, h_y2, h⟩ := callK_inv h
  rw [cl_eq hcl (L_spec_l17Draw (IntKind.i64.wrap (1 + y1.1)) y1.2 h_y2)]
  rotate_left
  · show _ = _; kernel_rfl
  · show _ = _; kernel_rfl
  conv => lhs; whnf
  obtain ⟨y3, h_y3, h⟩ := callK_inv h
  rw [cl_eq hcl (L_spec_l00Src_pick 14 y2.2 h_y3)]
  rotate_left
  · show _ = _; kernel_rfl
  · show _ = _; kernel_rfl
  conv => lhs; whnf
  cases hb4 : (y3.1 == 0)
  · replace h := ifF h (beqF hb4); conv => lhs; whnf
    cases hb6 : (y3.1 == 1)
    · replace h := ifF h (beqF hb6); conv => lhs; whnf
      cases hb8 : (y3.1 == 2)
      · replace h := ifF h (beqF hb8); conv => lhs; whnf
        cases hb10 : (y3.1 == 3)
        · replace h := ifF h (beqF hb10); conv => lhs; whnf
          cases hb12 : (y3.1 == 4)
          · replace h := ifF h (beqF hb12); conv => lhs; whnf
            obtain rfl := Option.some.inj h; show _ = _; kernel_rfl

          · replace h := ifT h (beqT hb12); conv => lhs; whnf
            obtain ⟨y13, h_y13, h⟩ := callK_inv h
            rw [cl_eq hcl (L_spec_l00Src_text ([(⟨#[]⟩ : ByteArray), (⟨#[97]⟩ : ByteArray), (⟨#[110, 105, 110, 101, 98, 121, 116, 101, 115]⟩ : ByteArray)] : List ByteArray) y3.2 h_y13)]
            rotate_left
            · show _ = _; kernel_rfl
            · show _ = _; kernel_rfl
            conv => lhs; whnf
            obtain rfl := Option.some.inj h; show _ = _; kernel_rfl

        · replace h := ifT h (beqT hb10); conv => lhs; whnf
          obtain ⟨y11, h_y11, h⟩ := callK_inv h
          rw [cl_eq hcl (L_spec_l00Src_text ([(⟨#[]⟩ : ByteArray), (⟨#[120]⟩ : ByteArray), (⟨#[115, 101, 118, 101, 110, 116, 101, 101, 110, 32, 98, 121, 116, 101, 115, 33, 33]⟩ : ByteArray)] : List ByteArray) y3.2 h_y11)]
          rotate_left
          · show _ = _; kernel_rfl
          · show _ = _; kernel_rfl
          conv => lhs; whnf
          obtain rfl := Option.some.inj h; show _ = _; kernel_rfl

      · replace h := ifT h (beqT hb8); conv => lhs; whnf
        obtain ⟨y9, h_y9, h⟩ := callK_inv h
        rw [cl_eq hcl (L_spec_l00Src_pick 6 y3.2 h_y9)]
        rotate_left
        · show _ = _; kernel_rfl
        · show _ = _; kernel_rfl
        conv => lhs; whnf
        obtain rfl := Option.some.inj h; show _ = _; kernel_rfl

    · replace h := ifT h (beqT hb6); conv => lhs; whnf
      obtain ⟨y7, h_y7, h⟩ := callK_inv h
      rw [cl_eq hcl (L_spec_l00Src_among ([0, (-1), 1000000, 1000001, 1099511627776] : List Int) y3.2 h_y7)]
      rotate_left
      · show _ = _; kernel_rfl
      · show _ = _; kernel_rfl
      conv => lhs; whnf
      obtain rfl := Option.some.inj h; show _ = _; kernel_rfl

  · replace h := ifT h (beqT hb4); conv => lhs; whnf
    obtain ⟨y5, h_y5, h⟩ := callK_inv h
    rw [cl_eq hcl (L_spec_l00Src_text ([(⟨#[]⟩ : ByteArray), (⟨#[110, 105, 110, 101, 98, 121, 116, 101, 115]⟩ : ByteArray), (⟨#[97]⟩ : ByteArray)] : List ByteArray) y3.2 h_y5)]
    rotate_left
    · show _ = _; kernel_rfl
    · show _ = _; kernel_rfl
    conv => lhs; whnf
    obtain rfl := Option.some.inj h; show _ = _; kernel_rfl


noncomputable def p_spec_DrawSortRecords (a_0 : List Int) : Option (List Record) :=
  callK (p_spec_l00From a_0) fun y1 =>
  callK (p_spec_l00Src_pick 8 y1) fun y2 =>
  iterK (fun ((v3, v4, v5) : (Int × Sl00Src × (List Record))) (nx6 : (Int × Sl00Src × (List Record)) → Option _) =>
    if v3 > 0 then
      callK (p_spec_l17Any v4) fun y8 =>
      grd (appOk (v5.length + 1) 64 = true) <|
      callK (p_spec_l00Src_one 4 y8.2) fun y9 =>
      if y9.1 = true then
        getK (v5 ++ ([y8.1] : List Record)) 0 fun x11 =>
        grd (appOk ((v5 ++ ([y8.1] : List Record)).length + 1) 64 = true) <|
        nx6 ((IntKind.i64.wrap (v3 - 1)), y9.2, ((v5 ++ ([y8.1] : List Record)) ++ ([x11] : List Record)))
      else
        nx6 ((IntKind.i64.wrap (v3 - 1)), y9.2, (v5 ++ ([y8.1] : List Record)))
    else
      some v5) NN (y2.1, y2.2, ([] : List Record))

set_option maxHeartbeats 4000000 in
theorem L_spec_DrawSortRecords (a_0 : List Int) {r : (List Record)} (h : p_spec_DrawSortRecords a_0 = some r) : callL E 104 [.d (.arr (a_0.map rU))] ([] : Fo) = some (.d (.arr (r.map rRecord)), ([] : Fo)) := by
  unfold p_spec_DrawSortRecords at h
  refine callW (fu := Try.f104) rfl rfl rfl NN ?_
  intro lp cl hlp hcl
  conv => lhs; whnf
  obtain ⟨y1, h_y1, h⟩ := callK_inv h
  rw [cl_eq hcl (L_spec_l00From a_0 h_y1)]
  rotate_left
  · show _ = _; kernel_rfl
  · show _ = _; kernel_rfl
  conv => lhs; whnf
  obtain ⟨y2, h_y2, h⟩ := callK_inv h
  rw [cl_eq hcl (L_spec_l00Src_pick 8 y1 h_y2)]
  rotate_left
  · show _ = _; kernel_rfl
  · show _ = _; kernel_rfl
  conv => lhs; whnf
  refine loop_iter hlp (fun ((v3, v4, v5) : (Int × Sl00Src × (List Record))) => ([.dead, .dead, .dead, .bp 0 0, .sl 1, IN v3] ++ List.replicate 25 .dead : List V)) (fun ((v3, v4, v5) : (Int × Sl00Src × (List Record))) => ([some (.box [.d (.arr (v4.Code.map rU)), IN v4.At, .d (.lit (.int .u64 v4.Seed))]), some (.arr 46 5 (v5.map rRecord))] : Fo)) (fun (r : (List Record)) => ((.d (.arr (r.map rRecord)) : V), ([] : Fo))) ?_ (y2.1, y2.2, ([] : List Record)) _ (fun kk => by kernel_rfl) h
  clear h
  rintro next_nx6 nx6 hnx6 ⟨v3, v4, v5⟩ r h
  try dsimp only at h
  conv => lhs; whnf
  cases hb7 : (decide (v3 > 0))
  · replace h := ifF h (decF hb7); conv => lhs; whnf
    obtain rfl := Option.some.inj h; show _ = _; kernel_rfl

  · replace h := ifT h (decT hb7); conv => lhs; whnf
    obtain ⟨y8, h_y8, h⟩ := callK_inv h
    rw [cl_eq hcl (L_spec_l17Any v4 h_y8)]
    rotate_left
    · show _ = _; kernel_rfl
    · show _ = _; kernel_rfl
    conv => lhs; whnf
    obtain ⟨hg12, h⟩ := grd_inv h
    rw [app_eq hg12 ?h1 ?h2]
    case h1 => first | exact rfl | (simp only [List.length_map, List.length_cons, List.length_nil]; done) | (rw [List.length_map]; rfl)
    case h2 => exact rfl
    conv => lhs; whnf
    first | (rw [map_app_of (r := rRecord) (l := v5) (m := ([y8.1] : List Record)) ?hh]; case hh => exact rfl) | skip
    obtain ⟨y9, h_y9, h⟩ := callK_inv h
    rw [cl_eq hcl (L_spec_l00Src_one 4 y8.2 h_y9)]
    rotate_left
    · show _ = _; kernel_rfl
    · show _ = _; kernel_rfl
    conv => lhs; whnf
    cases hb10 : y9.1
    · replace h := ifF h (booF hb10); conv => lhs; whnf
      exact hnx6 _ _ _ _ (fun kk => by kernel_rfl) h
    · replace h := ifT h hb10; conv => lhs; whnf
      obtain ⟨x11, hq_x11, hx_x11', h⟩ := getK_inv h
      have hx_x11 := get_of (r := rRecord) hx_x11'
      try (rw [decide_eq_true hq_x11]; conv => lhs; whnf)
      rw [hx_x11]
      conv => lhs; whnf
      rw [hx_x11]
      conv => lhs; whnf
      obtain ⟨hg13, h⟩ := grd_inv h
      rw [app_eq hg13 ?h1 ?h2]
      case h1 => first | exact rfl | (simp only [List.length_map, List.length_cons, List.length_nil]; done) | (rw [List.length_map]; rfl)
      case h2 => exact rfl
      conv => lhs; whnf
      first | (rw [map_app_of (r := rRecord) (l := (v5 ++ ([y8.1] : List Record))) (m := ([x11] : List Record)) ?hh]; case hh => exact rfl) | skip
      exact hnx6 _ _ _ _ (fun kk => by kernel_rfl) h

noncomputable def p_spec_A8Records (a_0 : List Int) : Option (List Record) :=
  callK (p_spec_DrawSortRecords a_0) fun y1 =>
  some y1

set_option maxHeartbeats 4000000 in
theorem L_spec_A8Records (a_0 : List Int) {r : (List Record)} (h : p_spec_A8Records a_0 = some r) : callL E 31 [.d (.arr (a_0.map rU))] ([] : Fo) = some (.d (.arr (r.map rRecord)), ([] : Fo)) := by
  unfold p_spec_A8Records at h
  refine callW (fu := Try.f31) rfl rfl rfl NN ?_
  intro lp cl hlp hcl
  conv => lhs; whnf
  obtain ⟨y1, h_y1, h⟩ := callK_inv h
  rw [cl_eq hcl (L_spec_DrawSortRecords a_0 h_y1)]
  rotate_left
  · show _ = _; kernel_rfl
  · show _ = _; kernel_rfl
  conv => lhs; whnf
  obtain rfl := Option.some.inj h; show _ = _; kernel_rfl


noncomputable def p_impl_ValidKey (a_0 : ByteArray) : Option Bool :=
  some (inR (ByteArray.size a_0 : Int) 1 8)

set_option maxHeartbeats 4000000 in
theorem L_impl_ValidKey (a_0 : ByteArray) {r : Bool} (h : p_impl_ValidKey a_0 = some r) : callL E 82 [ST a_0] ([] : Fo) = some (BO r, ([] : Fo)) := by
  unfold p_impl_ValidKey at h
  refine callW (fu := Try.f82) rfl rfl rfl NN ?_
  intro lp cl hlp hcl
  conv => lhs; whnf
  rw [cl_eq hcl (L_impl_within (ByteArray.size a_0 : Int) 1 8 (pl_within (ByteArray.size a_0 : Int) 1 8))]
  rotate_left
  · show _ = _; kernel_rfl
  · show _ = _; kernel_rfl
  conv => lhs; whnf
  obtain rfl := Option.some.inj h; show _ = _; kernel_rfl


noncomputable def p_impl_ValidRecord (a_0 : Record) : Option Bool :=
  callK (p_impl_ValidKey a_0.Key) fun y1 =>
  if y1 = true then
    if (inR a_0.Seq 1 1000000) = true then
      if a_0.Kind = 1 then
        if (ByteArray.size a_0.Value : Int) ≤ 16 then
          some (a_0.End.toList == (⟨#[]⟩ : ByteArray).toList)
        else
          some false
      else
        if a_0.Kind = 2 then
          if (a_0.Value.toList == (⟨#[]⟩ : ByteArray).toList) = true then
            some (a_0.End.toList == (⟨#[]⟩ : ByteArray).toList)
          else
            some false
        else
          if a_0.Kind = 3 then
            if (a_0.Value.toList == (⟨#[]⟩ : ByteArray).toList) = true then
              callK (p_impl_ValidKey a_0.End) fun y10 =>
              if y10 = true then
                some (!((Op.bytesLess a_0.End.toList a_0.Key.toList) || (a_0.End.toList == a_0.Key.toList)))
              else
                some false
            else
              some false
          else
            some false
    else
      some false
  else
    some false

set_option maxHeartbeats 4000000 in
theorem L_impl_ValidRecord (a_0 : Record) {r : Bool} (h : p_impl_ValidRecord a_0 = some r) : callL E 108 [.agg [ST a_0.Key, IN a_0.Seq, IN a_0.Kind, ST a_0.Value, ST a_0.End]] ([] : Fo) = some (BO r, ([] : Fo)) := by
  unfold p_impl_ValidRecord at h
  refine callW (fu := Try.f108) rfl rfl rfl NN ?_
  intro lp cl hlp hcl
  conv => lhs; whnf
  obtain ⟨y1, h_y1, h⟩ := callK_inv h
  rw [cl_eq hcl (L_impl_ValidKey a_0.Key h_y1)]
  rotate_left
  · show _ = _; kernel_rfl
  · show _ = _; kernel_rfl
  conv => lhs; whnf
  cases hb2 : y1
  · replace h := ifF h (booF hb2); conv => lhs; whnf
    try (rw [hb2]; conv => lhs; whnf)
    try (rw [hb2]; conv => lhs; whnf)
    try (rw [hb2]; conv => lhs; whnf)
    try (rw [hb2]; conv => lhs; whnf)
    obtain rfl := Option.some.inj h; show _ = _; kernel_rfl

  · replace h := ifT h hb2
    try rw [hb2] at h
    conv => lhs; whnf
    try (rw [hb2]; conv => lhs; whnf)
    try (rw [hb2]; conv => lhs; whnf)
    rw [cl_eq hcl (L_impl_within a_0.Seq 1 1000000 (pl_within a_0.Seq 1 1000000))]
    rotate_left
    · show _ = _; kernel_rfl
    · show _ = _; kernel_rfl
    conv => lhs; whnf
    try (rw [hb2]; conv => lhs; whnf)
    try (rw [hb2]; conv => lhs; whnf)
    cases hb3 : (inR a_0.Seq 1 1000000)
    · replace h := ifF h (booF hb3); conv => lhs; whnf
      obtain rfl := Option.some.inj h; show _ = _; kernel_rfl

    · replace h := ifT h hb3; conv => lhs; whnf
      cases hb4 : (a_0.Kind == 1)
      · replace h := ifF h (beqF hb4); conv => lhs; whnf
        cases hb6 : (a_0.Kind == 2)
        · replace h := ifF h (beqF hb6); conv => lhs; whnf
          cases hb8 : (a_0.Kind == 3)
          · replace h := ifF h (beqF hb8); conv => lhs; whnf
            obtain rfl := Option.some.inj h; show _ = _; kernel_rfl

          · replace h := ifT h (beqT hb8); conv => lhs; whnf
            cases hb9 : (a_0.Value.toList == (⟨#[]⟩ : ByteArray).toList)
            · replace h := ifF h (booF hb9); conv => lhs; whnf
              try (rw [hb9]; conv => lhs; whnf)
              try (rw [hb9]; conv => lhs; whnf)
              try (rw [hb9]; conv => lhs; whnf)
              obtain rfl := Option.some.inj h; show _ = _; kernel_rfl

            · replace h := ifT h hb9; conv => lhs; whnf
              try (rw [hb9]; conv => lhs; whnf)
              try (rw [hb9]; conv => lhs; whnf)
              obtain ⟨y10, h_y10, h⟩ := callK_inv h
              rw [cl_eq hcl (L_impl_ValidKey a_0.End h_y10)]
              rotate_left
              · show _ = _; kernel_rfl
              · show _ = _; kernel_rfl
              conv => lhs; whnf
              try (rw [hb9]; conv => lhs; whnf)
              cases hb11 : y10
              · replace h := ifF h (booF hb11); conv => lhs; whnf
                try (rw [hb11]; conv => lhs; whnf)
                try (rw [hb11]; conv => lhs; whnf)
                try (rw [hb11]; conv => lhs; whnf)
                try (rw [hb11]; conv => lhs; whnf)
                try (rw [hb11]; conv => lhs; whnf)
                obtain rfl := Option.some.inj h; show _ = _; kernel_rfl

              · replace h := ifT h hb11; conv => lhs; whnf
                try (rw [hb11]; conv => lhs; whnf)
                try (rw [hb11]; conv => lhs; whnf)
                try (rw [hb11]; conv => lhs; whnf)
                try (rw [hb11]; conv => lhs; whnf)
                try (rw [hb11]; conv => lhs; whnf)
                obtain rfl := Option.some.inj h; show _ = _; kernel_rfl

        · replace h := ifT h (beqT hb6); conv => lhs; whnf
          cases hb7 : (a_0.Value.toList == (⟨#[]⟩ : ByteArray).toList)
          · replace h := ifF h (booF hb7); conv => lhs; whnf
            try (rw [hb7]; conv => lhs; whnf)
            try (rw [hb7]; conv => lhs; whnf)
            try (rw [hb7]; conv => lhs; whnf)
            obtain rfl := Option.some.inj h; show _ = _; kernel_rfl

          · replace h := ifT h hb7; conv => lhs; whnf
            try (rw [hb7]; conv => lhs; whnf)
            try (rw [hb7]; conv => lhs; whnf)
            try (rw [hb7]; conv => lhs; whnf)
            obtain rfl := Option.some.inj h; show _ = _; kernel_rfl

      · replace h := ifT h (beqT hb4); conv => lhs; whnf
        cases hb5 : (decide ((ByteArray.size a_0.Value : Int) ≤ 16))
        · replace h := ifF h (decF hb5); conv => lhs; whnf
          try (rw [hb5]; conv => lhs; whnf)
          try (rw [hb5]; conv => lhs; whnf)
          try (rw [hb5]; conv => lhs; whnf)
          obtain rfl := Option.some.inj h; show _ = _; kernel_rfl

        · replace h := ifT h (decT hb5); conv => lhs; whnf
          try (rw [hb5]; conv => lhs; whnf)
          try (rw [hb5]; conv => lhs; whnf)
          try (rw [hb5]; conv => lhs; whnf)
          obtain rfl := Option.some.inj h; show _ = _; kernel_rfl


noncomputable def p_impl_SortRecords_c1 (a_0 : Record) : Option Bool :=
  callK (p_impl_ValidRecord a_0) fun y1 =>
  some (!y1)

set_option maxHeartbeats 4000000 in
theorem L_impl_SortRecords_c1 (a_0 : Record) {r : Bool} (h : p_impl_SortRecords_c1 a_0 = some r) : callL E 107 [.agg [ST a_0.Key, IN a_0.Seq, IN a_0.Kind, ST a_0.Value, ST a_0.End]] ([] : Fo) = some (BO r, ([] : Fo)) := by
  unfold p_impl_SortRecords_c1 at h
  refine callW (fu := Try.f107) rfl rfl rfl NN ?_
  intro lp cl hlp hcl
  conv => lhs; whnf
  obtain ⟨y1, h_y1, h⟩ := callK_inv h
  rw [cl_eq hcl (L_impl_ValidRecord a_0 h_y1)]
  rotate_left
  · show _ = _; kernel_rfl
  · show _ = _; kernel_rfl
  conv => lhs; whnf
  obtain rfl := Option.some.inj h; show _ = _; kernel_rfl


noncomputable def p_slices_IndexFunc_impl_SortRecords_c1 (a_0 : List Record) : Option Int :=
  grd (a_0.length < 4611686018427387904) <|
  forK a_0 (fun (i6 : Nat) x8 (_ : Unit) (nx7 : Unit → Option _) =>
    callK (p_impl_SortRecords_c1 x8) fun y9 =>
    if y9 = true then
      some (i6 : Int)
    else
      nx7 ()) () (fun (_ : Unit) =>
    some (-1))

set_option maxHeartbeats 4000000 in
theorem L_slices_IndexFunc_impl_SortRecords_c1 (a_0 : List Record) {r : Int} (h : p_slices_IndexFunc_impl_SortRecords_c1 a_0 = some r) : callL E 147 [.sl 0, .clo 107 []] ([some (.arr 46 5 (a_0.map rRecord))] : Fo) = some (IN r, ([some (.arr 46 5 (a_0.map rRecord))] : Fo)) := by
  unfold p_slices_IndexFunc_impl_SortRecords_c1 at h
  refine callW (fu := Try.f147) rfl rfl rfl NN ?_
  intro lp cl hlp hcl
  conv => lhs; whnf
  try rw [len_of (l := a_0) (r := rRecord)]
  obtain ⟨hl_i6, h⟩ := grd_inv h
  refine loop_for hlp (l := a_0) hl_i6 (fun (i6 : Nat) (_ : Unit) => ([.sl 0, .clo 107 [], .dead, .dead, .dead, .dead, .dead, IN (a_0.length : Int), IN (i6 : Int)] ++ List.replicate 10 .dead : List V)) (fun (i6 : Nat) (_ : Unit) => ([some (.arr 46 5 (a_0.map rRecord))] : Fo)) (fun (r : Int) => ((IN r : V), ([some (.arr 46 5 (a_0.map rRecord))] : Fo))) ?_ ?_ () _ (fun kk => by kernel_rfl) h
  · clear h
    rintro next_nx7 nx7 i6 hi_i6 hnx7 ⟨⟩ r h
    try dsimp only at h
    have hn_i6 : i6 < 4611686018427387904 := by omega
    have hx_x8 := get_map rRecord a_0 i6 hi_i6
    generalize a_0[i6] = x8 at h hx_x8
    have hd_i6 : (decide ((i6 : Int) < (a_0.length : Int))) = true := decide_eq_true (by omega)
    conv => lhs; whnf
    try (first | rw [hd_i6] | (split; (first | (rename_i hx; exact absurd (hd_i6.symm.trans hx) (by decide)) | (rotate_left; rename_i hx; exact absurd (hd_i6.symm.trans hx) (by decide)))))
    conv => lhs; whnf
    try (rw [decide_eq_true hq_x8]; conv => lhs; whnf)
    rw [hx_x8]
    conv => lhs; whnf
    rw [hx_x8]
    conv => lhs; whnf
    obtain ⟨y9, h_y9, h⟩ := callK_inv h
    rw [cl_eq hcl (L_impl_SortRecords_c1 x8 h_y9)]
    rotate_left
    · show _ = _; kernel_rfl
    · show _ = _; kernel_rfl
    conv => lhs; whnf
    cases hb10 : y9
    · replace h := ifF h (booF hb10); conv => lhs; whnf
      rw [wrap_nat i6 (by have := hn_i6; omega)]
      exact hnx7 _ _ _ _ (fun kk => by kernel_rfl) h
    · replace h := ifT h hb10; conv => lhs; whnf
      obtain rfl := Option.some.inj h; show _ = _; kernel_rfl

  · clear h
    rintro next_nx7 ⟨⟩ r h
    try dsimp only at h
    have hd_i6 : (decide ((a_0.length : Int) < (a_0.length : Int))) = false := decide_eq_false (by omega)
    conv => lhs; whnf
    try (first | rw [hd_i6] | (split; (first | (rename_i hx; exact absurd (hd_i6.symm.trans hx) (by decide)) | (rotate_left; rename_i hx; exact absurd (hd_i6.symm.trans hx) (by decide)))))
    conv => lhs; whnf
    obtain rfl := Option.some.inj h; show _ = _; kernel_rfl


noncomputable def p_slices_DeleteFunc_impl_SortRecords_c1 (a_0 : List Record) : Option (List Record) :=
  callK (p_slices_IndexFunc_impl_SortRecords_c1 a_0) fun y1 =>
  if y1 = (-1) then
    some a_0
  else
    iterK (fun ((v3, v4, v5) : (Int × Int × (List Record))) (nx6 : (Int × Int × (List Record)) → Option _) =>
      if v4 < (v5.length : Int) then
        getK v5 v4 fun x8 =>
        callK (p_impl_SortRecords_c1 x8) fun y9 =>
        if y9 = true then
          nx6 (v3, (IntKind.i64.wrap (v4 + 1)), v5)
        else
          getK v5 v3 fun x11 =>
          nx6 ((IntKind.i64.wrap (v3 + 1)), (IntKind.i64.wrap (v4 + 1)), (v5.set (Int.toNat v3) x8))
      else
        grd (0 ≤ v3 ∧ v3 < (v5.length : Int)) <|
        grd (0 ≤ v3 ∧ v3 ≤ ((v5.take (Int.toNat v3) ++ List.replicate (v5.length - (Int.toNat v3)) (⟨(⟨#[]⟩ : ByteArray), 0, 0, (⟨#[]⟩ : ByteArray), (⟨#[]⟩ : ByteArray)⟩ : Record)).length : Int)) <|
        some ((v5.take (Int.toNat v3) ++ List.replicate (v5.length - (Int.toNat v3)) (⟨(⟨#[]⟩ : ByteArray), 0, 0, (⟨#[]⟩ : ByteArray), (⟨#[]⟩ : ByteArray)⟩ : Record)).take (Int.toNat v3))) NN (y1, (IntKind.i64.wrap (y1 + 1)), a_0)

set_option maxHeartbeats 4000000 in
theorem L_slices_DeleteFunc_impl_SortRecords_c1 (a_0 : List Record) {r : (List Record)} (h : p_slices_DeleteFunc_impl_SortRecords_c1 a_0 = some r) : callL E 105 [.sl 0, .clo 107 []] ([some (.arr 46 5 (a_0.map rRecord))] : Fo) = some (.sl 1, ([none, some (.arr 46 5 (r.map rRecord))] : Fo)) := by
  unfold p_slices_DeleteFunc_impl_SortRecords_c1 at h
  refine callW (fu := Try.f105) rfl rfl rfl NN ?_
  intro lp cl hlp hcl
  conv => lhs; whnf
  obtain ⟨y1, h_y1, h⟩ := callK_inv h
  rw [cl_eq hcl (L_slices_IndexFunc_impl_SortRecords_c1 a_0 h_y1)]
  rotate_left
  · show _ = _; kernel_rfl
  · show _ = _; kernel_rfl
  conv => lhs; whnf
  cases hb2 : (y1 == (-1))
  · replace h := ifF h (beqF hb2); conv => lhs; whnf
    refine loop_iter hlp (fun ((v3, v4, v5) : (Int × Int × (List Record))) => ([.sl 0, .clo 107 [], .dead, .dead, .dead, IN v3, IN v4] ++ List.replicate 35 .dead : List V)) (fun ((v3, v4, v5) : (Int × Int × (List Record))) => ([some (.arr 46 5 (v5.map rRecord))] : Fo)) (fun (r : (List Record)) => ((.sl 1 : V), ([none, some (.arr 46 5 (r.map rRecord))] : Fo))) ?_ (y1, (IntKind.i64.wrap (y1 + 1)), a_0) _ (fun kk => by kernel_rfl) h
    clear h
    rintro next_nx6 nx6 hnx6 ⟨v3, v4, v5⟩ r h
    try dsimp only at h
    conv => lhs; whnf
    try rw [len_of (l := v5) (r := rRecord)]
    cases hb7 : (decide (v4 < (v5.length : Int)))
    · replace h := ifF h (decF hb7); conv => lhs; whnf
      obtain ⟨hg12, h⟩ := grd_inv h
      try rw [List.length_map]
      try (rw [decide_eq_true hg12.1]; conv => lhs; whnf)
      try (rw [decide_eq_true hg12.2])
      conv => lhs; whnf
      first | (rw [wipe_of (r := rRecord) (l := v5) (x := (⟨(⟨#[]⟩ : ByteArray), 0, 0, (⟨#[]⟩ : ByteArray), (⟨#[]⟩ : ByteArray)⟩ : Record)) ?hh]; case hh => exact rfl) | skip
      obtain ⟨hg13, h⟩ := grd_inv h
      try rw [List.length_map]
      try (rw [decide_eq_true hg13.1]; conv => lhs; whnf)
      try (rw [decide_eq_true hg13.2])
      conv => lhs; whnf
      try rw [take_of (r := rRecord) (l := (v5.take (Int.toNat v3) ++ List.replicate (v5.length - (Int.toNat v3)) (⟨(⟨#[]⟩ : ByteArray), 0, 0, (⟨#[]⟩ : ByteArray), (⟨#[]⟩ : ByteArray)⟩ : Record)))]
      obtain rfl := Option.some.inj h; show _ = _; kernel_rfl

    · replace h := ifT h (decT hb7); conv => lhs; whnf
      obtain ⟨x8, hq_x8, hx_x8', h⟩ := getK_inv h
      have hx_x8 := get_of (r := rRecord) hx_x8'
      try (rw [decide_eq_true hq_x8]; conv => lhs; whnf)
      rw [hx_x8]
      conv => lhs; whnf
      rw [hx_x8]
      conv => lhs; whnf
      obtain ⟨y9, h_y9, h⟩ := callK_inv h
      rw [cl_eq hcl (L_impl_SortRecords_c1 x8 h_y9)]
      rotate_left
      · show _ = _; kernel_rfl
      · show _ = _; kernel_rfl
      conv => lhs; whnf
      cases hb10 : y9
      · replace h := ifF h (booF hb10); conv => lhs; whnf
        obtain ⟨x11, hq_x11, hx_x11', h⟩ := getK_inv h
        have hx_x11 := get_of (r := rRecord) hx_x11'
        try (rw [decide_eq_true hq_x11]; conv => lhs; whnf)
        rw [hx_x11]
        conv => lhs; whnf
        rw [hx_x11]
        conv => lhs; whnf
        first | (rw [map_set_of (r := rRecord) (l := v5) (x := x8) ?hh]; case hh => exact rfl) | skip
        exact hnx6 _ _ _ _ (fun kk => by kernel_rfl) h
      · replace h := ifT h hb10; conv => lhs; whnf
        exact hnx6 _ _ _ _ (fun kk => by kernel_rfl) h
  · replace h := ifT h (beqT hb2); conv => lhs; whnf
    obtain rfl := Option.some.inj h; show _ = _; kernel_rfl


noncomputable def p_slices_Compact (a_0 : List Record) : Option (List Record) :=
  if (a_0.length : Int) < 2 then
    some a_0
  else
    iterK (fun (v2 : Int) (nx3 : Int → Option _) =>
      if v2 < (a_0.length : Int) then
        getK a_0 v2 fun x5 =>
        getK a_0 (IntKind.i64.wrap (v2 - 1)) fun x6 =>
        if ((x5.Key.toList == x6.Key.toList) && ((x5.Seq == x6.Seq) && ((x5.Kind == x6.Kind) && ((x5.Value.toList == x6.Value.toList) && ((x5.End.toList == x6.End.toList) && true))))) = true then
          grd (0 ≤ v2 ∧ v2 < (a_0.length : Int)) <|
          iterK (fun ((v8, v9, v10) : (Int × Int × (List Record))) (nx11 : (Int × Int × (List Record)) → Option _) =>
            if v9 < ((List.drop (Int.toNat v2) v10).length : Int) then
              grd (0 ≤ v9) <|
              getN v10 ((Int.toNat v2) + Int.toNat v9) fun x13 =>
              grd (0 ≤ (IntKind.i64.wrap (v9 - 1))) <|
              getN v10 ((Int.toNat v2) + Int.toNat (IntKind.i64.wrap (v9 - 1))) fun x14 =>
              if ((x13.Key.toList == x14.Key.toList) && ((x13.Seq == x14.Seq) && ((x13.Kind == x14.Kind) && ((x13.Value.toList == x14.Value.toList) && ((x13.End.toList == x14.End.toList) && true))))) = true then
                nx11 (v8, (IntKind.i64.wrap (v9 + 1)), v10)
              else
                grd (0 ≤ v9) <|
                getK v10 v8 fun x16 =>
                nx11 ((IntKind.i64.wrap (v8 + 1)), (IntKind.i64.wrap (v9 + 1)), (v10.set (Int.toNat v8) x13))
            else
              grd (0 ≤ v8 ∧ v8 < (v10.length : Int)) <|
              grd (0 ≤ v8 ∧ v8 ≤ ((v10.take (Int.toNat v8) ++ List.replicate (v10.length - (Int.toNat v8)) (⟨(⟨#[]⟩ : ByteArray), 0, 0, (⟨#[]⟩ : ByteArray), (⟨#[]⟩ : ByteArray)⟩ : Record)).length : Int)) <|
              some ((v10.take (Int.toNat v8) ++ List.replicate (v10.length - (Int.toNat v8)) (⟨(⟨#[]⟩ : ByteArray), 0, 0, (⟨#[]⟩ : ByteArray), (⟨#[]⟩ : ByteArray)⟩ : Record)).take (Int.toNat v8))) NN (v2, 1, a_0)
        else
          nx3 (IntKind.i64.wrap (v2 + 1))
      else
        some a_0) NN 1

set_option maxHeartbeats 4000000 in
theorem L_slices_Compact (a_0 : List Record) {r : (List Record)} (h : p_slices_Compact a_0 = some r) : callL E 110 [.sl 0] ([some (.arr 46 5 (a_0.map rRecord))] : Fo) = some (.sl 1, ([none, some (.arr 46 5 (r.map rRecord))] : Fo)) := by
  unfold p_slices_Compact at h
  refine callW (fu := Try.f110) rfl rfl rfl NN ?_
  intro lp cl hlp hcl
  conv => lhs; whnf
  try rw [len_of (l := a_0) (r := rRecord)]
  cases hb1 : (decide ((a_0.length : Int) < 2))
  · replace h := ifF h (decF hb1); conv => lhs; whnf
    refine loop_iter hlp (fun (v2 : Int) => ([.sl 0, .dead, .dead, IN v2] ++ List.replicate 57 .dead : List V)) (fun (v2 : Int) => ([some (.arr 46 5 (a_0.map rRecord))] : Fo)) (fun (r : (List Record)) => ((.sl 1 : V), ([none, some (.arr 46 5 (r.map rRecord))] : Fo))) ?_ 1 _ (fun kk => by kernel_rfl) h
    clear h
    rintro next_nx3 nx3 hnx3 v2 r h
    try dsimp only at h
    conv => lhs; whnf
    try rw [len_of (l := a_0) (r := rRecord)]
    cases hb4 : (decide (v2 < (a_0.length : Int)))
    · replace h := ifF h (decF hb4); conv => lhs; whnf
      obtain rfl := Option.some.inj h; show _ = _; kernel_rfl

    · replace h := ifT h (decT hb4); conv => lhs; whnf
      obtain ⟨x5, hq_x5, hx_x5', h⟩ := getK_inv h
      have hx_x5 := get_of (r := rRecord) hx_x5'
      try (rw [decide_eq_true hq_x5]; conv => lhs; whnf)
      rw [hx_x5]
      conv => lhs; whnf
      rw [hx_x5]
      conv => lhs; whnf
      obtain ⟨x6, hq_x6, hx_x6', h⟩ := getK_inv h
      have hx_x6 := get_of (r := rRecord) hx_x6'
      try (rw [decide_eq_true hq_x6]; conv => lhs; whnf)
      rw [hx_x6]
      conv => lhs; whnf
      rw [hx_x6]
      conv => lhs; whnf
      cases hb7 : ((x5.Key.toList == x6.Key.toList) && ((x5.Seq == x6.Seq) && ((x5.Kind == x6.Kind) && ((x5.Value.toList == x6.Value.toList) && ((x5.End.toList == x6.End.toList) && true)))))
      · replace h := ifF h (booF hb7); conv => lhs; whnf
        exact hnx3 _ _ _ _ (fun kk => by kernel_rfl) h
      · replace h := ifT h hb7; conv => lhs; whnf
        obtain ⟨hg17, h⟩ := grd_inv h
        try rw [List.length_map]
        try (rw [decide_eq_true hg17.1]; conv => lhs; whnf)
        try (rw [decide_eq_true hg17.2])
        conv => lhs; whnf
        refine loop_iter hlp (fun ((v8, v9, v10) : (Int × Int × (List Record))) => ([.sl 0, .dead, .dead, IN v8, .tl 0 (Int.toNat v2), IN v9] ++ List.replicate 55 .dead : List V)) (fun ((v8, v9, v10) : (Int × Int × (List Record))) => ([some (.arr 46 5 (v10.map rRecord))] : Fo)) (fun (r : (List Record)) => ((.sl 1 : V), ([none, some (.arr 46 5 (r.map rRecord))] : Fo))) ?_ (v2, 1, a_0) _ (fun kk => by kernel_rfl) h
        clear h
        rintro next_nx11 nx11 hnx11 ⟨v8, v9, v10⟩ r h
        try dsimp only at h
        conv => lhs; whnf
        try rw [← List.map_drop]
        try rw [len_of (l := (List.drop (Int.toNat v2) v10)) (r := rRecord)]
        cases hb12 : (decide (v9 < ((List.drop (Int.toNat v2) v10).length : Int)))
        · replace h := ifF h (decF hb12); conv => lhs; whnf
          obtain ⟨hg18, h⟩ := grd_inv h
          try rw [List.length_map]
          try (rw [decide_eq_true hg18.1]; conv => lhs; whnf)
          try (rw [decide_eq_true hg18.2])
          conv => lhs; whnf
          first | (rw [wipe_of (r := rRecord) (l := v10) (x := (⟨(⟨#[]⟩ : ByteArray), 0, 0, (⟨#[]⟩ : ByteArray), (⟨#[]⟩ : ByteArray)⟩ : Record)) ?hh]; case hh => exact rfl) | skip
          obtain ⟨hg19, h⟩ := grd_inv h
          try rw [List.length_map]
          try (rw [decide_eq_true hg19.1]; conv => lhs; whnf)
          try (rw [decide_eq_true hg19.2])
          conv => lhs; whnf
          try rw [take_of (r := rRecord) (l := (v10.take (Int.toNat v8) ++ List.replicate (v10.length - (Int.toNat v8)) (⟨(⟨#[]⟩ : ByteArray), 0, 0, (⟨#[]⟩ : ByteArray), (⟨#[]⟩ : ByteArray)⟩ : Record)))]
          obtain rfl := Option.some.inj h; show _ = _; kernel_rfl

        · replace h := ifT h (decT hb12); conv => lhs; whnf
          obtain ⟨hg20, h⟩ := grd_inv h
          try (rw [decide_eq_true hg20]; conv => lhs; whnf)
          conv => lhs; whnf
          obtain ⟨x13, hx_x13', h⟩ := getN_inv h
          have hx_x13 := get_of (r := rRecord) hx_x13'
          rw [hx_x13]
          conv => lhs; whnf
          rw [hx_x13]
          conv => lhs; whnf
          obtain ⟨hg21, h⟩ := grd_inv h
          try (rw [decide_eq_true hg21]; conv => lhs; whnf)
          conv => lhs; whnf
          obtain ⟨x14, hx_x14', h⟩ := getN_inv h
          have hx_x14 := get_of (r := rRecord) hx_x14'
          rw [hx_x14]
          conv => lhs; whnf
          rw [hx_x14]
          conv => lhs; whnf
          cases hb15 : ((x13.Key.toList == x14.Key.toList) && ((x13.Seq == x14.Seq) && ((x13.Kind == x14.Kind) && ((x13.Value.toList == x14.Value.toList) && ((x13.End.toList == x14.End.toList) && true)))))
          · replace h := ifF h (booF hb15); conv => lhs; whnf
            obtain ⟨hg22, h⟩ := grd_inv h
            try (rw [decide_eq_true hg22]; conv => lhs; whnf)
            conv => lhs; whnf
            rw [hx_x13]
            conv => lhs; whnf
            rw [hx_x13]
            conv => lhs; whnf
            obtain ⟨x16, hq_x16, hx_x16', h⟩ := getK_inv h
            have hx_x16 := get_of (r := rRecord) hx_x16'
            try (rw [decide_eq_true hq_x16]; conv => lhs; whnf)
            rw [hx_x16]
            conv => lhs; whnf
            rw [hx_x16]
            conv => lhs; whnf
            first | (rw [map_set_of (r := rRecord) (l := v10) (x := x13) ?hh]; case hh => exact rfl) | skip
            exact hnx11 _ _ _ _ (fun kk => by kernel_rfl) h
          · replace h := ifT h hb15; conv => lhs; whnf
            exact hnx11 _ _ _ _ (fun kk => by kernel_rfl) h
  · replace h := ifT h (decT hb1); conv => lhs; whnf
    obtain rfl := Option.some.inj h; show _ = _; kernel_rfl


noncomputable def p_impl_SortRecords (a_0 : List Record) : Option (List Record) :=
  grd (appOk a_0.length 64 = true) <|
  callK (p_slices_DeleteFunc_impl_SortRecords_c1 a_0) fun y1 =>
  grd (y1.length < 4611686018427387904) <|
  callK (p_slices_Compact (TK0.sortR y1)) fun y2 =>
  some y2

set_option maxHeartbeats 4000000 in
theorem L_impl_SortRecords (a_0 : List Record) {r : (List Record)} (h : p_impl_SortRecords a_0 = some r) : callL E 32 [.d (.arr (a_0.map rRecord))] ([] : Fo) = some (.d (.arr (r.map rRecord)), ([] : Fo)) := by
  unfold p_impl_SortRecords at h
  refine callW (fu := Try.f32) rfl rfl rfl NN ?_
  intro lp cl hlp hcl
  conv => lhs; whnf
  obtain ⟨hg3, h⟩ := grd_inv h
  rw [cl_eq hcl (f_clone (rows := a_0.map rRecord) rfl (app_eq hg3 (List.length_map ..) rfl) (allLen_map rRecord _ rRecord_len _) rfl)]
  rotate_left
  · exact rfl
  · exact rfl
  conv => lhs; whnf
  obtain ⟨y1, h_y1, h⟩ := callK_inv h
  rw [cl_eq hcl (L_slices_DeleteFunc_impl_SortRecords_c1 a_0 h_y1)]
  rotate_left
  · show _ = _; kernel_rfl
  · show _ = _; kernel_rfl
  conv => lhs; whnf
  obtain ⟨hg4, h⟩ := grd_inv h
  rw [cl_eq hcl (f_sortR (e := 46) rfl rfl hg4)]
  rotate_left
  · exact rfl
  · exact rfl
  conv => lhs; whnf
  obtain ⟨y2, h_y2, h⟩ := callK_inv h
  rw [cl_eq hcl (L_slices_Compact (TK0.sortR y1) h_y2)]
  rotate_left
  · show _ = _; kernel_rfl
  · show _ = _; kernel_rfl
  conv => lhs; whnf
  obtain rfl := Option.some.inj h; show _ = _; kernel_rfl


noncomputable def p_laws_a8Same (a_0 : List Record) (a_1 : List Record) : Option Bool :=
  if ¬ (a_0.length : Int) = (a_1.length : Int) then
    some false
  else
    grd (a_0.length < 4611686018427387904) <|
    forK a_0 (fun (i7 : Nat) x9 (_ : Unit) (nx8 : Unit → Option _) =>
      getK a_1 (i7 : Int) fun x10 =>
      if ((x9.Key.toList == x10.Key.toList) && ((x9.Seq == x10.Seq) && ((x9.Kind == x10.Kind) && ((x9.Value.toList == x10.Value.toList) && ((x9.End.toList == x10.End.toList) && true))))) = true then
        nx8 ()
      else
        some false) () (fun (_ : Unit) =>
      some true)

set_option maxHeartbeats 4000000 in
theorem L_laws_a8Same (a_0 : List Record) (a_1 : List Record) {r : Bool} (h : p_laws_a8Same a_0 a_1 = some r) : callL E 33 [.d (.arr (a_0.map rRecord)), .d (.arr (a_1.map rRecord))] ([] : Fo) = some (BO r, ([] : Fo)) := by
  unfold p_laws_a8Same at h
  refine callW (fu := Try.f33) rfl rfl rfl NN ?_
  intro lp cl hlp hcl
  conv => lhs; whnf
  try rw [len_of (l := a_0) (r := rRecord)]
  try rw [len_of (l := a_1) (r := rRecord)]
  cases hb1 : ((a_0.length : Int) != (a_1.length : Int))
  · replace h := ifF h ((fun h => not_not_intro (bneF h)) hb1); conv => lhs; whnf
    obtain ⟨hl_i7, h⟩ := grd_inv h
    refine loop_for hlp (l := a_0) hl_i7 (fun (i7 : Nat) (_ : Unit) => ([.d (.arr (a_0.map rRecord)), .d (.arr (a_1.map rRecord)), .dead, .dead, .dead, IN (i7 : Int)] ++ List.replicate 20 .dead : List V)) (fun (i7 : Nat) (_ : Unit) => ([] : Fo)) (fun (r : Bool) => ((BO r : V), ([] : Fo))) ?_ ?_ () _ (fun kk => by kernel_rfl) h
    · clear h
      rintro next_nx8 nx8 i7 hi_i7 hnx8 ⟨⟩ r h
      try dsimp only at h
      have hn_i7 : i7 < 4611686018427387904 := by omega
      have hx_x9 := get_map rRecord a_0 i7 hi_i7
      generalize a_0[i7] = x9 at h hx_x9
      have hd_i7 : (decide ((i7 : Int) < (a_0.length : Int))) = true := decide_eq_true (by omega)
      conv => lhs; whnf
      try rw [len_of (l := a_0) (r := rRecord)]
      try (first | rw [hd_i7] | (split; (first | (rename_i hx; exact absurd (hd_i7.symm.trans hx) (by decide)) | (rotate_left; rename_i hx; exact absurd (hd_i7.symm.trans hx) (by decide)))))
      conv => lhs; whnf
      try (rw [decide_eq_true hq_x9]; conv => lhs; whnf)
      rw [hx_x9]
      conv => lhs; whnf
      rw [hx_x9]
      conv => lhs; whnf
      obtain ⟨x10, hq_x10, hx_x10', h⟩ := getK_inv h
      have hx_x10 := get_of (r := rRecord) hx_x10'
      try (rw [decide_eq_true hq_x10]; conv => lhs; whnf)
      rw [hx_x10]
      conv => lhs; whnf
      rw [hx_x10]
      conv => lhs; whnf
      cases hb11 : ((x9.Key.toList == x10.Key.toList) && ((x9.Seq == x10.Seq) && ((x9.Kind == x10.Kind) && ((x9.Value.toList == x10.Value.toList) && ((x9.End.toList == x10.End.toList) && true)))))
      · replace h := ifF h (booF hb11); conv => lhs; whnf
        obtain rfl := Option.some.inj h; show _ = _; kernel_rfl

      · replace h := ifT h hb11; conv => lhs; whnf
        rw [wrap_nat i7 (by have := hn_i7; omega)]
        exact hnx8 _ _ _ _ (fun kk => by kernel_rfl) h
    · clear h
      rintro next_nx8 ⟨⟩ r h
      try dsimp only at h
      have hd_i7 : (decide ((a_0.length : Int) < (a_0.length : Int))) = false := decide_eq_false (by omega)
      conv => lhs; whnf
      try rw [len_of (l := a_0) (r := rRecord)]
      try (first | rw [hd_i7] | (split; (first | (rename_i hx; exact absurd (hd_i7.symm.trans hx) (by decide)) | (rotate_left; rename_i hx; exact absurd (hd_i7.symm.trans hx) (by decide)))))
      conv => lhs; whnf
      obtain rfl := Option.some.inj h; show _ = _; kernel_rfl

  · replace h := ifT h (bneT hb1); conv => lhs; whnf
    obtain rfl := Option.some.inj h; show _ = _; kernel_rfl


noncomputable def p_spec_l17Key (a_0 : ByteArray) : Option Bool :=
  if (ByteArray.size a_0 : Int) ≥ 1 then
    some (decide ((ByteArray.size a_0 : Int) ≤ 8))
  else
    some false

set_option maxHeartbeats 4000000 in
theorem L_spec_l17Key (a_0 : ByteArray) {r : Bool} (h : p_spec_l17Key a_0 = some r) : callL E 130 [ST a_0] ([] : Fo) = some (BO r, ([] : Fo)) := by
  unfold p_spec_l17Key at h
  refine callW (fu := Try.f130) rfl rfl rfl NN ?_
  intro lp cl hlp hcl
  conv => lhs; whnf
  cases hb1 : (decide ((ByteArray.size a_0 : Int) ≥ 1))
  · replace h := ifF h (decF hb1); conv => lhs; whnf
    try (rw [hb1]; conv => lhs; whnf)
    try (rw [hb1]; conv => lhs; whnf)
    try (rw [hb1]; conv => lhs; whnf)
    obtain rfl := Option.some.inj h; show _ = _; kernel_rfl

  · replace h := ifT h (decT hb1); conv => lhs; whnf
    try (rw [hb1]; conv => lhs; whnf)
    try (rw [hb1]; conv => lhs; whnf)
    try (rw [hb1]; conv => lhs; whnf)
    obtain rfl := Option.some.inj h; show _ = _; kernel_rfl


noncomputable def p_spec_l17Valid (a_0 : Record) : Option Bool :=
  callK (p_spec_l17Key a_0.Key) fun y1 =>
  if y1 = true then
    if (inR a_0.Seq 1 1000000) = true then
      if a_0.Kind = 1 then
        if (ByteArray.size a_0.Value : Int) ≤ 16 then
          some (a_0.End.toList == (⟨#[]⟩ : ByteArray).toList)
        else
          some false
      else
        if a_0.Kind = 2 then
          if (a_0.Value.toList == (⟨#[]⟩ : ByteArray).toList) = true then
            some (a_0.End.toList == (⟨#[]⟩ : ByteArray).toList)
          else
            some false
        else
          if a_0.Kind = 3 then
            if (a_0.Value.toList == (⟨#[]⟩ : ByteArray).toList) = true then
              callK (p_spec_l17Key a_0.End) fun y10 =>
              if y10 = true then
                some (Op.bytesLess a_0.Key.toList a_0.End.toList)
              else
                some false
            else
              some false
          else
            some false
    else
      some false
  else
    some false

set_option maxHeartbeats 4000000 in
theorem L_spec_l17Valid (a_0 : Record) {r : Bool} (h : p_spec_l17Valid a_0 = some r) : callL E 111 [.agg [ST a_0.Key, IN a_0.Seq, IN a_0.Kind, ST a_0.Value, ST a_0.End]] ([] : Fo) = some (BO r, ([] : Fo)) := by
  unfold p_spec_l17Valid at h
  refine callW (fu := Try.f111) rfl rfl rfl NN ?_
  intro lp cl hlp hcl
  conv => lhs; whnf
  obtain ⟨y1, h_y1, h⟩ := callK_inv h
  rw [cl_eq hcl (L_spec_l17Key a_0.Key h_y1)]
  rotate_left
  · show _ = _; kernel_rfl
  · show _ = _; kernel_rfl
  conv => lhs; whnf
  cases hb2 : y1
  · replace h := ifF h (booF hb2); conv => lhs; whnf
    try (rw [hb2]; conv => lhs; whnf)
    try (rw [hb2]; conv => lhs; whnf)
    try (rw [hb2]; conv => lhs; whnf)
    try (rw [hb2]; conv => lhs; whnf)
    obtain rfl := Option.some.inj h; show _ = _; kernel_rfl

  · replace h := ifT h hb2
    try rw [hb2] at h
    conv => lhs; whnf
    try (rw [hb2]; conv => lhs; whnf)
    try (rw [hb2]; conv => lhs; whnf)
    rw [cl_eq hcl (L_spec_l00In a_0.Seq 1 1000000 (pl_l00In a_0.Seq 1 1000000))]
    rotate_left
    · show _ = _; kernel_rfl
    · show _ = _; kernel_rfl
    conv => lhs; whnf
    try (rw [hb2]; conv => lhs; whnf)
    try (rw [hb2]; conv => lhs; whnf)
    cases hb3 : (inR a_0.Seq 1 1000000)
    · replace h := ifF h (booF hb3); conv => lhs; whnf
      obtain rfl := Option.some.inj h; show _ = _; kernel_rfl

    · replace h := ifT h hb3; conv => lhs; whnf
      cases hb4 : (a_0.Kind == 1)
      · replace h := ifF h (beqF hb4); conv => lhs; whnf
        cases hb6 : (a_0.Kind == 2)
        · replace h := ifF h (beqF hb6); conv => lhs; whnf
          cases hb8 : (a_0.Kind == 3)
          · replace h := ifF h (beqF hb8); conv => lhs; whnf
            obtain rfl := Option.some.inj h; show _ = _; kernel_rfl

          · replace h := ifT h (beqT hb8); conv => lhs; whnf
            cases hb9 : (a_0.Value.toList == (⟨#[]⟩ : ByteArray).toList)
            · replace h := ifF h (booF hb9); conv => lhs; whnf
              try (rw [hb9]; conv => lhs; whnf)
              try (rw [hb9]; conv => lhs; whnf)
              try (rw [hb9]; conv => lhs; whnf)
              obtain rfl := Option.some.inj h; show _ = _; kernel_rfl

            · replace h := ifT h hb9; conv => lhs; whnf
              try (rw [hb9]; conv => lhs; whnf)
              try (rw [hb9]; conv => lhs; whnf)
              obtain ⟨y10, h_y10, h⟩ := callK_inv h
              rw [cl_eq hcl (L_spec_l17Key a_0.End h_y10)]
              rotate_left
              · show _ = _; kernel_rfl
              · show _ = _; kernel_rfl
              conv => lhs; whnf
              try (rw [hb9]; conv => lhs; whnf)
              cases hb11 : y10
              · replace h := ifF h (booF hb11); conv => lhs; whnf
                try (rw [hb11]; conv => lhs; whnf)
                try (rw [hb11]; conv => lhs; whnf)
                try (rw [hb11]; conv => lhs; whnf)
                try (rw [hb11]; conv => lhs; whnf)
                try (rw [hb11]; conv => lhs; whnf)
                obtain rfl := Option.some.inj h; show _ = _; kernel_rfl

              · replace h := ifT h hb11; conv => lhs; whnf
                try (rw [hb11]; conv => lhs; whnf)
                try (rw [hb11]; conv => lhs; whnf)
                try (rw [hb11]; conv => lhs; whnf)
                try (rw [hb11]; conv => lhs; whnf)
                try (rw [hb11]; conv => lhs; whnf)
                obtain rfl := Option.some.inj h; show _ = _; kernel_rfl

        · replace h := ifT h (beqT hb6); conv => lhs; whnf
          cases hb7 : (a_0.Value.toList == (⟨#[]⟩ : ByteArray).toList)
          · replace h := ifF h (booF hb7); conv => lhs; whnf
            try (rw [hb7]; conv => lhs; whnf)
            try (rw [hb7]; conv => lhs; whnf)
            try (rw [hb7]; conv => lhs; whnf)
            obtain rfl := Option.some.inj h; show _ = _; kernel_rfl

          · replace h := ifT h hb7; conv => lhs; whnf
            try (rw [hb7]; conv => lhs; whnf)
            try (rw [hb7]; conv => lhs; whnf)
            try (rw [hb7]; conv => lhs; whnf)
            obtain rfl := Option.some.inj h; show _ = _; kernel_rfl

      · replace h := ifT h (beqT hb4); conv => lhs; whnf
        cases hb5 : (decide ((ByteArray.size a_0.Value : Int) ≤ 16))
        · replace h := ifF h (decF hb5); conv => lhs; whnf
          try (rw [hb5]; conv => lhs; whnf)
          try (rw [hb5]; conv => lhs; whnf)
          try (rw [hb5]; conv => lhs; whnf)
          obtain rfl := Option.some.inj h; show _ = _; kernel_rfl

        · replace h := ifT h (decT hb5); conv => lhs; whnf
          try (rw [hb5]; conv => lhs; whnf)
          try (rw [hb5]; conv => lhs; whnf)
          try (rw [hb5]; conv => lhs; whnf)
          obtain rfl := Option.some.inj h; show _ = _; kernel_rfl


noncomputable def p_spec_ValidRecord (a_0 : Record) : Option Bool :=
  callK (p_spec_l17Valid a_0) fun y1 =>
  some y1

set_option maxHeartbeats 4000000 in
theorem L_spec_ValidRecord (a_0 : Record) {r : Bool} (h : p_spec_ValidRecord a_0 = some r) : callL E 34 [.agg [ST a_0.Key, IN a_0.Seq, IN a_0.Kind, ST a_0.Value, ST a_0.End]] ([] : Fo) = some (BO r, ([] : Fo)) := by
  unfold p_spec_ValidRecord at h
  refine callW (fu := Try.f34) rfl rfl rfl NN ?_
  intro lp cl hlp hcl
  conv => lhs; whnf
  obtain ⟨y1, h_y1, h⟩ := callK_inv h
  rw [cl_eq hcl (L_spec_l17Valid a_0 h_y1)]
  rotate_left
  · show _ = _; kernel_rfl
  · show _ = _; kernel_rfl
  conv => lhs; whnf
  obtain rfl := Option.some.inj h; show _ = _; kernel_rfl


noncomputable def p_spec_l17Less (a_0 : Record) (a_1 : Record) : Option Bool :=
  if (a_0.Key.toList == a_1.Key.toList) = true then
    if ¬ a_0.Seq = a_1.Seq then
      some (decide (a_0.Seq > a_1.Seq))
    else
      if ¬ a_0.Kind = a_1.Kind then
        some (decide (a_0.Kind < a_1.Kind))
      else
        if (a_0.Value.toList == a_1.Value.toList) = true then
          some (Op.bytesLess a_0.End.toList a_1.End.toList)
        else
          some (Op.bytesLess a_0.Value.toList a_1.Value.toList)
  else
    some (Op.bytesLess a_0.Key.toList a_1.Key.toList)

set_option maxHeartbeats 4000000 in
theorem L_spec_l17Less (a_0 : Record) (a_1 : Record) {r : Bool} (h : p_spec_l17Less a_0 a_1 = some r) : callL E 112 [.agg [ST a_0.Key, IN a_0.Seq, IN a_0.Kind, ST a_0.Value, ST a_0.End], .agg [ST a_1.Key, IN a_1.Seq, IN a_1.Kind, ST a_1.Value, ST a_1.End]] ([] : Fo) = some (BO r, ([] : Fo)) := by
  unfold p_spec_l17Less at h
  refine callW (fu := Try.f112) rfl rfl rfl NN ?_
  intro lp cl hlp hcl
  conv => lhs; whnf
  cases hb1 : (a_0.Key.toList == a_1.Key.toList)
  · replace h := ifF h (booF hb1); conv => lhs; whnf
    obtain rfl := Option.some.inj h; show _ = _; kernel_rfl

  · replace h := ifT h hb1; conv => lhs; whnf
    cases hb2 : (a_0.Seq != a_1.Seq)
    · replace h := ifF h ((fun h => not_not_intro (bneF h)) hb2); conv => lhs; whnf
      cases hb3 : (a_0.Kind != a_1.Kind)
      · replace h := ifF h ((fun h => not_not_intro (bneF h)) hb3); conv => lhs; whnf
        cases hb4 : (a_0.Value.toList == a_1.Value.toList)
        · replace h := ifF h (booF hb4); conv => lhs; whnf
          obtain rfl := Option.some.inj h; show _ = _; kernel_rfl

        · replace h := ifT h hb4; conv => lhs; whnf
          obtain rfl := Option.some.inj h; show _ = _; kernel_rfl

      · replace h := ifT h (bneT hb3); conv => lhs; whnf
        obtain rfl := Option.some.inj h; show _ = _; kernel_rfl

    · replace h := ifT h (bneT hb2); conv => lhs; whnf
      obtain rfl := Option.some.inj h; show _ = _; kernel_rfl


noncomputable def p_spec_LessRecord (a_0 : Record) (a_1 : Record) : Option Bool :=
  callK (p_spec_l17Less a_0 a_1) fun y1 =>
  some y1

set_option maxHeartbeats 4000000 in
theorem L_spec_LessRecord (a_0 : Record) (a_1 : Record) {r : Bool} (h : p_spec_LessRecord a_0 a_1 = some r) : callL E 35 [.agg [ST a_0.Key, IN a_0.Seq, IN a_0.Kind, ST a_0.Value, ST a_0.End], .agg [ST a_1.Key, IN a_1.Seq, IN a_1.Kind, ST a_1.Value, ST a_1.End]] ([] : Fo) = some (BO r, ([] : Fo)) := by
  unfold p_spec_LessRecord at h
  refine callW (fu := Try.f35) rfl rfl rfl NN ?_
  intro lp cl hlp hcl
  conv => lhs; whnf
  obtain ⟨y1, h_y1, h⟩ := callK_inv h
  rw [cl_eq hcl (L_spec_l17Less a_0 a_1 h_y1)]
  rotate_left
  · show _ = _; kernel_rfl
  · show _ = _; kernel_rfl
  conv => lhs; whnf
  obtain rfl := Option.some.inj h; show _ = _; kernel_rfl


noncomputable def p_laws_FnRecordOrder (a_0 : List Int) : Option Bool :=
  if (a_0.length : Int) > 400 then
    some true
  else
    callK (p_spec_A8Record a_0) fun y2 =>
    callK (p_laws_a8Mix a_0 1) fun y3 =>
    callK (p_spec_A8Record y3) fun y4 =>
    callK (p_laws_a8Mix a_0 2) fun y5 =>
    callK (p_spec_A8Record y5) fun y6 =>
    callK (p_impl_LessRecord y2 y4) fun y7 =>
    if y7 = true then
      callK (p_impl_LessRecord y4 y2) fun y9 =>
      if y9 = true then
        if ((((IntKind.i64.wrap ((IntKind.i64.wrap (0 + 1)) + 1)) : Int) == 0) == ((y2.Key.toList == y4.Key.toList) && ((y2.Seq == y4.Seq) && ((y2.Kind == y4.Kind) && ((y2.Value.toList == y4.Value.toList) && ((y2.End.toList == y4.End.toList) && true)))))) = true then
          some false
        else
          some false
      else
        if ((((IntKind.i64.wrap (0 + 1)) : Int) == 0) == ((y2.Key.toList == y4.Key.toList) && ((y2.Seq == y4.Seq) && ((y2.Kind == y4.Kind) && ((y2.Value.toList == y4.Value.toList) && ((y2.End.toList == y4.End.toList) && true)))))) = true then
          callK (p_impl_LessRecord y2 y4) fun y13 =>
          if y13 = true then
            callK (p_impl_LessRecord y4 y6) fun y15 =>
            if y15 = true then
              callK (p_impl_LessRecord y2 y6) fun y17 =>
              if y17 = true then
                callK (p_spec_A8Records a_0) fun y19 =>
                iterK (fun ((v20, v21) : (Int × (List Record))) (nx22 : (Int × (List Record)) → Option _) =>
                  if v20 ≥ 0 then
                    getK y19 v20 fun x24 =>
                    grd (appOk (v21.length + 1) 64 = true) <|
                    nx22 ((IntKind.i64.wrap (v20 - 1)), (v21 ++ ([x24] : List Record)))
                  else
                    callK (p_impl_SortRecords y19) fun y25 =>
                    callK (p_impl_SortRecords v21) fun y26 =>
                    callK (p_laws_a8Same y25 y26) fun y27 =>
                    if y27 = true then
                      callK (p_impl_SortRecords y25) fun y29 =>
                      callK (p_laws_a8Same y25 y29) fun y30 =>
                      if y30 = true then
                        grd (y25.length < 4611686018427387904) <|
                        forK y25 (fun (i41 : Nat) x43 (_ : Unit) (nx42 : Unit → Option _) =>
                          callK (p_spec_ValidRecord x43) fun y44 =>
                          if y44 = true then
                            if (i41 : Int) > 0 then
                              getK y25 (IntKind.i64.wrap ((i41 : Int) - 1)) fun x47 =>
                              callK (p_spec_LessRecord x47 x43) fun y48 =>
                              if y48 = true then
                                nx42 ()
                              else
                                some false
                            else
                              nx42 ()
                          else
                            some false) () (fun (_ : Unit) =>
                          some true)
                      else
                        some false
                    else
                      some false) NN ((IntKind.i64.wrap ((y19.length : Int) - 1)), ([] : List Record))
              else
                some false
            else
              callK (p_spec_A8Records a_0) fun y50 =>
              iterK (fun ((v51, v52) : (Int × (List Record))) (nx53 : (Int × (List Record)) → Option _) =>
                if v51 ≥ 0 then
                  getK y50 v51 fun x55 =>
                  grd (appOk (v52.length + 1) 64 = true) <|
                  nx53 ((IntKind.i64.wrap (v51 - 1)), (v52 ++ ([x55] : List Record)))
                else
                  callK (p_impl_SortRecords y50) fun y56 =>
                  callK (p_impl_SortRecords v52) fun y57 =>
                  callK (p_laws_a8Same y56 y57) fun y58 =>
                  if y58 = true then
                    callK (p_impl_SortRecords y56) fun y60 =>
                    callK (p_laws_a8Same y56 y60) fun y61 =>
                    if y61 = true then
                      grd (y56.length < 4611686018427387904) <|
                      forK y56 (fun (i72 : Nat) x74 (_ : Unit) (nx73 : Unit → Option _) =>
                        callK (p_spec_ValidRecord x74) fun y75 =>
                        if y75 = true then
                          if (i72 : Int) > 0 then
                            getK y56 (IntKind.i64.wrap ((i72 : Int) - 1)) fun x78 =>
                            callK (p_spec_LessRecord x78 x74) fun y79 =>
                            if y79 = true then
                              nx73 ()
                            else
                              some false
                          else
                            nx73 ()
                        else
                          some false) () (fun (_ : Unit) =>
                        some true)
                    else
                      some false
                  else
                    some false) NN ((IntKind.i64.wrap ((y50.length : Int) - 1)), ([] : List Record))
          else
            callK (p_spec_A8Records a_0) fun y81 =>
            iterK (fun ((v82, v83) : (Int × (List Record))) (nx84 : (Int × (List Record)) → Option _) =>
              if v82 ≥ 0 then
                getK y81 v82 fun x86 =>
                grd (appOk (v83.length + 1) 64 = true) <|
                nx84 ((IntKind.i64.wrap (v82 - 1)), (v83 ++ ([x86] : List Record)))
              else
                callK (p_impl_SortRecords y81) fun y87 =>
                callK (p_impl_SortRecords v83) fun y88 =>
                callK (p_laws_a8Same y87 y88) fun y89 =>
                if y89 = true then
                  callK (p_impl_SortRecords y87) fun y91 =>
                  callK (p_laws_a8Same y87 y91) fun y92 =>
                  if y92 = true then
                    grd (y87.length < 4611686018427387904) <|
                    forK y87 (fun (i103 : Nat) x105 (_ : Unit) (nx104 : Unit → Option _) =>
                      callK (p_spec_ValidRecord x105) fun y106 =>
                      if y106 = true then
                        if (i103 : Int) > 0 then
                          getK y87 (IntKind.i64.wrap ((i103 : Int) - 1)) fun x109 =>
                          callK (p_spec_LessRecord x109 x105) fun y110 =>
                          if y110 = true then
                            nx104 ()
                          else
                            some false
                        else
                          nx104 ()
                      else
                        some false) () (fun (_ : Unit) =>
                      some true)
                  else
                    some false
                else
                  some false) NN ((IntKind.i64.wrap ((y81.length : Int) - 1)), ([] : List Record))
        else
          some false
    else
      callK (p_impl_LessRecord y4 y2) fun y112 =>
      if y112 = true then
        if ((((IntKind.i64.wrap (0 + 1)) : Int) == 0) == ((y2.Key.toList == y4.Key.toList) && ((y2.Seq == y4.Seq) && ((y2.Kind == y4.Kind) && ((y2.Value.toList == y4.Value.toList) && ((y2.End.toList == y4.End.toList) && true)))))) = true then
          callK (p_impl_LessRecord y2 y4) fun y115 =>
          if y115 = true then
            callK (p_impl_LessRecord y4 y6) fun y117 =>
            if y117 = true then
              callK (p_impl_LessRecord y2 y6) fun y119 =>
              if y119 = true then
                callK (p_spec_A8Records a_0) fun y121 =>
                iterK (fun ((v122, v123) : (Int × (List Record))) (nx124 : (Int × (List Record)) → Option _) =>
                  if v122 ≥ 0 then
                    getK y121 v122 fun x126 =>
                    grd (appOk (v123.length + 1) 64 = true) <|
                    nx124 ((IntKind.i64.wrap (v122 - 1)), (v123 ++ ([x126] : List Record)))
                  else
                    callK (p_impl_SortRecords y121) fun y127 =>
                    callK (p_impl_SortRecords v123) fun y128 =>
                    callK (p_laws_a8Same y127 y128) fun y129 =>
                    if y129 = true then
                      callK (p_impl_SortRecords y127) fun y131 =>
                      callK (p_laws_a8Same y127 y131) fun y132 =>
                      if y132 = true then
                        grd (y127.length < 4611686018427387904) <|
                        forK y127 (fun (i143 : Nat) x145 (_ : Unit) (nx144 : Unit → Option _) =>
                          callK (p_spec_ValidRecord x145) fun y146 =>
                          if y146 = true then
                            if (i143 : Int) > 0 then
                              getK y127 (IntKind.i64.wrap ((i143 : Int) - 1)) fun x149 =>
                              callK (p_spec_LessRecord x149 x145) fun y150 =>
                              if y150 = true then
                                nx144 ()
                              else
                                some false
                            else
                              nx144 ()
                          else
                            some false) () (fun (_ : Unit) =>
                          some true)
                      else
                        some false
                    else
                      some false) NN ((IntKind.i64.wrap ((y121.length : Int) - 1)), ([] : List Record))
              else
                some false
            else
              callK (p_spec_A8Records a_0) fun y152 =>
              iterK (fun ((v153, v154) : (Int × (List Record))) (nx155 : (Int × (List Record)) → Option _) =>
                if v153 ≥ 0 then
                  getK y152 v153 fun x157 =>
                  grd (appOk (v154.length + 1) 64 = true) <|
                  nx155 ((IntKind.i64.wrap (v153 - 1)), (v154 ++ ([x157] : List Record)))
                else
                  callK (p_impl_SortRecords y152) fun y158 =>
                  callK (p_impl_SortRecords v154) fun y159 =>
                  callK (p_laws_a8Same y158 y159) fun y160 =>
                  if y160 = true then
                    callK (p_impl_SortRecords y158) fun y162 =>
                    callK (p_laws_a8Same y158 y162) fun y163 =>
                    if y163 = true then
                      grd (y158.length < 4611686018427387904) <|
                      forK y158 (fun (i174 : Nat) x176 (_ : Unit) (nx175 : Unit → Option _) =>
                        callK (p_spec_ValidRecord x176) fun y177 =>
                        if y177 = true then
                          if (i174 : Int) > 0 then
                            getK y158 (IntKind.i64.wrap ((i174 : Int) - 1)) fun x180 =>
                            callK (p_spec_LessRecord x180 x176) fun y181 =>
                            if y181 = true then
                              nx175 ()
                            else
                              some false
                          else
                            nx175 ()
                        else
                          some false) () (fun (_ : Unit) =>
                        some true)
                    else
                      some false
                  else
                    some false) NN ((IntKind.i64.wrap ((y152.length : Int) - 1)), ([] : List Record))
          else
            callK (p_spec_A8Records a_0) fun y183 =>
            iterK (fun ((v184, v185) : (Int × (List Record))) (nx186 : (Int × (List Record)) → Option _) =>
              if v184 ≥ 0 then
                getK y183 v184 fun x188 =>
                grd (appOk (v185.length + 1) 64 = true) <|
                nx186 ((IntKind.i64.wrap (v184 - 1)), (v185 ++ ([x188] : List Record)))
              else
                callK (p_impl_SortRecords y183) fun y189 =>
                callK (p_impl_SortRecords v185) fun y190 =>
                callK (p_laws_a8Same y189 y190) fun y191 =>
                if y191 = true then
                  callK (p_impl_SortRecords y189) fun y193 =>
                  callK (p_laws_a8Same y189 y193) fun y194 =>
                  if y194 = true then
                    grd (y189.length < 4611686018427387904) <|
                    forK y189 (fun (i205 : Nat) x207 (_ : Unit) (nx206 : Unit → Option _) =>
                      callK (p_spec_ValidRecord x207) fun y208 =>
                      if y208 = true then
                        if (i205 : Int) > 0 then
                          getK y189 (IntKind.i64.wrap ((i205 : Int) - 1)) fun x211 =>
                          callK (p_spec_LessRecord x211 x207) fun y212 =>
                          if y212 = true then
                            nx206 ()
                          else
                            some false
                        else
                          nx206 ()
                      else
                        some false) () (fun (_ : Unit) =>
                      some true)
                  else
                    some false
                else
                  some false) NN ((IntKind.i64.wrap ((y183.length : Int) - 1)), ([] : List Record))
        else
          some false
      else
        if (((0 : Int) == 0) == ((y2.Key.toList == y4.Key.toList) && ((y2.Seq == y4.Seq) && ((y2.Kind == y4.Kind) && ((y2.Value.toList == y4.Value.toList) && ((y2.End.toList == y4.End.toList) && true)))))) = true then
          callK (p_impl_LessRecord y2 y4) fun y215 =>
          if y215 = true then
            callK (p_impl_LessRecord y4 y6) fun y217 =>
            if y217 = true then
              callK (p_impl_LessRecord y2 y6) fun y219 =>
              if y219 = true then
                callK (p_spec_A8Records a_0) fun y221 =>
                iterK (fun ((v222, v223) : (Int × (List Record))) (nx224 : (Int × (List Record)) → Option _) =>
                  if v222 ≥ 0 then
                    getK y221 v222 fun x226 =>
                    grd (appOk (v223.length + 1) 64 = true) <|
                    nx224 ((IntKind.i64.wrap (v222 - 1)), (v223 ++ ([x226] : List Record)))
                  else
                    callK (p_impl_SortRecords y221) fun y227 =>
                    callK (p_impl_SortRecords v223) fun y228 =>
                    callK (p_laws_a8Same y227 y228) fun y229 =>
                    if y229 = true then
                      callK (p_impl_SortRecords y227) fun y231 =>
                      callK (p_laws_a8Same y227 y231) fun y232 =>
                      if y232 = true then
                        grd (y227.length < 4611686018427387904) <|
                        forK y227 (fun (i243 : Nat) x245 (_ : Unit) (nx244 : Unit → Option _) =>
                          callK (p_spec_ValidRecord x245) fun y246 =>
                          if y246 = true then
                            if (i243 : Int) > 0 then
                              getK y227 (IntKind.i64.wrap ((i243 : Int) - 1)) fun x249 =>
                              callK (p_spec_LessRecord x249 x245) fun y250 =>
                              if y250 = true then
                                nx244 ()
                              else
                                some false
                            else
                              nx244 ()
                          else
                            some false) () (fun (_ : Unit) =>
                          some true)
                      else
                        some false
                    else
                      some false) NN ((IntKind.i64.wrap ((y221.length : Int) - 1)), ([] : List Record))
              else
                some false
            else
              callK (p_spec_A8Records a_0) fun y252 =>
              iterK (fun ((v253, v254) : (Int × (List Record))) (nx255 : (Int × (List Record)) → Option _) =>
                if v253 ≥ 0 then
                  getK y252 v253 fun x257 =>
                  grd (appOk (v254.length + 1) 64 = true) <|
                  nx255 ((IntKind.i64.wrap (v253 - 1)), (v254 ++ ([x257] : List Record)))
                else
                  callK (p_impl_SortRecords y252) fun y258 =>
                  callK (p_impl_SortRecords v254) fun y259 =>
                  callK (p_laws_a8Same y258 y259) fun y260 =>
                  if y260 = true then
                    callK (p_impl_SortRecords y258) fun y262 =>
                    callK (p_laws_a8Same y258 y262) fun y263 =>
                    if y263 = true then
                      grd (y258.length < 4611686018427387904) <|
                      forK y258 (fun (i274 : Nat) x276 (_ : Unit) (nx275 : Unit → Option _) =>
                        callK (p_spec_ValidRecord x276) fun y277 =>
                        if y277 = true then
                          if (i274 : Int) > 0 then
                            getK y258 (IntKind.i64.wrap ((i274 : Int) - 1)) fun x280 =>
                            callK (p_spec_LessRecord x280 x276) fun y281 =>
                            if y281 = true then
                              nx275 ()
                            else
                              some false
                          else
                            nx275 ()
                        else
                          some false) () (fun (_ : Unit) =>
                        some true)
                    else
                      some false
                  else
                    some false) NN ((IntKind.i64.wrap ((y252.length : Int) - 1)), ([] : List Record))
          else
            callK (p_spec_A8Records a_0) fun y283 =>
            iterK (fun ((v284, v285) : (Int × (List Record))) (nx286 : (Int × (List Record)) → Option _) =>
              if v284 ≥ 0 then
                getK y283 v284 fun x288 =>
                grd (appOk (v285.length + 1) 64 = true) <|
                nx286 ((IntKind.i64.wrap (v284 - 1)), (v285 ++ ([x288] : List Record)))
              else
                callK (p_impl_SortRecords y283) fun y289 =>
                callK (p_impl_SortRecords v285) fun y290 =>
                callK (p_laws_a8Same y289 y290) fun y291 =>
                if y291 = true then
                  callK (p_impl_SortRecords y289) fun y293 =>
                  callK (p_laws_a8Same y289 y293) fun y294 =>
                  if y294 = true then
                    grd (y289.length < 4611686018427387904) <|
                    forK y289 (fun (i305 : Nat) x307 (_ : Unit) (nx306 : Unit → Option _) =>
                      callK (p_spec_ValidRecord x307) fun y308 =>
                      if y308 = true then
                        if (i305 : Int) > 0 then
                          getK y289 (IntKind.i64.wrap ((i305 : Int) - 1)) fun x311 =>
                          callK (p_spec_LessRecord x311 x307) fun y312 =>
                          if y312 = true then
                            nx306 ()
                          else
                            some false
                        else
                          nx306 ()
                      else
                        some false) () (fun (_ : Unit) =>
                      some true)
                  else
                    some false
                else
                  some false) NN ((IntKind.i64.wrap ((y283.length : Int) - 1)), ([] : List Record))
        else
          some false

set_option maxHeartbeats 4000000 in
theorem L_laws_FnRecordOrder (a_0 : List Int) {r : Bool} (h : p_laws_FnRecordOrder a_0 = some r) : callL E 5 [.d (.arr (a_0.map rU))] ([] : Fo) = some (BO r, ([] : Fo)) := by
  unfold p_laws_FnRecordOrder at h
  refine callW (fu := Try.f5) rfl rfl rfl NN ?_
  intro lp cl hlp hcl
  conv => lhs; whnf
  try rw [len_of (l := a_0) (r := rU)]
  cases hb1 : (decide ((a_0.length : Int) > 400))
  · replace h := ifF h (decF hb1); conv => lhs; whnf
    obtain ⟨y2, h_y2, h⟩ := callK_inv h
    rw [cl_eq hcl (L_spec_A8Record a_0 h_y2)]
    rotate_left
    · show _ = _; kernel_rfl
    · show _ = _; kernel_rfl
    conv => lhs; whnf
    obtain ⟨y3, h_y3, h⟩ := callK_inv h
    rw [cl_eq hcl (L_laws_a8Mix a_0 1 h_y3)]
    rotate_left
    · show _ = _; kernel_rfl
    · show _ = _; kernel_rfl
    conv => lhs; whnf
    obtain ⟨y4, h_y4, h⟩ := callK_inv h
    rw [cl_eq hcl (L_spec_A8Record y3 h_y4)]
    rotate_left
    · show _ = _; kernel_rfl
    · show _ = _; kernel_rfl
    conv => lhs; whnf
    obtain ⟨y5, h_y5, h⟩ := callK_inv h
    rw [cl_eq hcl (L_laws_a8Mix a_0 2 h_y5)]
    rotate_left
    · show _ = _; kernel_rfl
    · show _ = _; kernel_rfl
    conv => lhs; whnf
    obtain ⟨y6, h_y6, h⟩ := callK_inv h
    rw [cl_eq hcl (L_spec_A8Record y5 h_y6)]
    rotate_left
    · show _ = _; kernel_rfl
    · show _ = _; kernel_rfl
    conv => lhs; whnf
    obtain ⟨y7, h_y7, h⟩ := callK_inv h
    rw [cl_eq hcl (L_impl_LessRecord y2 y4 h_y7)]
    rotate_left
    · show _ = _; kernel_rfl
    · show _ = _; kernel_rfl
    conv => lhs; whnf
    cases hb8 : y7
    · replace h := ifF h (booF hb8); conv => lhs; whnf
      obtain ⟨y112, h_y112, h⟩ := callK_inv h
      rw [cl_eq hcl (L_impl_LessRecord y4 y2 h_y112)]
      rotate_left
      · show _ = _; kernel_rfl
      · show _ = _; kernel_rfl
      conv => lhs; whnf
      cases hb113 : y112
      · replace h := ifF h (booF hb113); conv => lhs; whnf
        cases hb214 : (((0 : Int) == 0) == ((y2.Key.toList == y4.Key.toList) && ((y2.Seq == y4.Seq) && ((y2.Kind == y4.Kind) && ((y2.Value.toList == y4.Value.toList) && ((y2.End.toList == y4.End.toList) && true))))))
        · replace h := ifF h (booF hb214); conv => lhs; whnf
          try (rw [hb214]; conv => lhs; whnf)
          try (rw [hb214]; conv => lhs; whnf)
          obtain rfl := Option.some.inj h; show _ = _; kernel_rfl

        · replace h := ifT h hb214; conv => lhs; whnf
          try (rw [hb214]; conv => lhs; whnf)
          try (rw [hb214]; conv => lhs; whnf)
          obtain ⟨y215, h_y215, h⟩ := callK_inv h
          rw [cl_eq hcl (L_impl_LessRecord y2 y4 h_y215)]
          rotate_left
          · show _ = _; kernel_rfl
          · show _ = _; kernel_rfl
          conv => lhs; whnf
          cases hb216 : y215
          · replace h := ifF h (booF hb216); conv => lhs; whnf
            try (rw [hb216]; conv => lhs; whnf)
            try (rw [hb216]; conv => lhs; whnf)
            try (rw [hb216]; conv => lhs; whnf)
            obtain ⟨y283, h_y283, h⟩ := callK_inv h
            rw [cl_eq hcl (L_spec_A8Records a_0 h_y283)]
            rotate_left
            · show _ = _; kernel_rfl
            · show _ = _; kernel_rfl
            conv => lhs; whnf
            try rw [len_of (l := y283) (r := rRecord)]
            refine loop_iter hlp (fun ((v284, v285) : (Int × (List Record))) => ([.dead, .dead, .dead, .dead, .dead, .dead, .dead, .d (.arr (y283.map rRecord)), .sl 0, IN v284] ++ List.replicate 109 .dead : List V)) (fun ((v284, v285) : (Int × (List Record))) => ([some (.arr 46 5 (v285.map rRecord))] : Fo)) (fun (r : Bool) => ((BO r : V), ([] : Fo))) ?_ ((IntKind.i64.wrap ((y283.length : Int) - 1)), ([] : List Record)) _ (fun kk => by kernel_rfl) h
            clear h
            rintro next_nx286 nx286 hnx286 ⟨v284, v285⟩ r h
            try dsimp only at h
            conv => lhs; whnf
            cases hb287 : (decide (v284 ≥ 0))
            · replace h := ifF h (decF hb287); conv => lhs; whnf
              obtain ⟨y289, h_y289, h⟩ := callK_inv h
              rw [cl_eq hcl (L_impl_SortRecords y283 h_y289)]
              rotate_left
              · show _ = _; kernel_rfl
              · show _ = _; kernel_rfl
              conv => lhs; whnf
              obtain ⟨y290, h_y290, h⟩ := callK_inv h
              rw [cl_eq hcl (L_impl_SortRecords v285 h_y290)]
              rotate_left
              · show _ = _; kernel_rfl
              · show _ = _; kernel_rfl
              conv => lhs; whnf
              obtain ⟨y291, h_y291, h⟩ := callK_inv h
              rw [cl_eq hcl (L_laws_a8Same y289 y290 h_y291)]
              rotate_left
              · show _ = _; kernel_rfl
              · show _ = _; kernel_rfl
              conv => lhs; whnf
              cases hb292 : y291
              · replace h := ifF h (booF hb292); conv => lhs; whnf
                try (rw [hb292]; conv => lhs; whnf)
                try (rw [hb292]; conv => lhs; whnf)
                try (rw [hb292]; conv => lhs; whnf)
                try (rw [hb292]; conv => lhs; whnf)
                try (rw [hb292]; conv => lhs; whnf)
                obtain rfl := Option.some.inj h; show _ = _; kernel_rfl

              · replace h := ifT h hb292; conv => lhs; whnf
                try (rw [hb292]; conv => lhs; whnf)
                try (rw [hb292]; conv => lhs; whnf)
                obtain ⟨y293, h_y293, h⟩ := callK_inv h
                rw [cl_eq hcl (L_impl_SortRecords y289 h_y293)]
                rotate_left
                · show _ = _; kernel_rfl
                · show _ = _; kernel_rfl
                conv => lhs; whnf
                try (rw [hb292]; conv => lhs; whnf)
                obtain ⟨y294, h_y294, h⟩ := callK_inv h
                rw [cl_eq hcl (L_laws_a8Same y289 y293 h_y294)]
                rotate_left
                · show _ = _; kernel_rfl
                · show _ = _; kernel_rfl
                conv => lhs; whnf
                try (rw [hb292]; conv => lhs; whnf)
                try (rw [hb292]; conv => lhs; whnf)
                cases hb295 : y294
                · replace h := ifF h (booF hb295); conv => lhs; whnf
                  obtain rfl := Option.some.inj h; show _ = _; kernel_rfl

                · replace h := ifT h hb295; conv => lhs; whnf
                  obtain ⟨hl_i305, h⟩ := grd_inv h
                  refine loop_for hlp (l := y289) hl_i305 (fun (i305 : Nat) (_ : Unit) => ([.dead, .dead, .dead, .dead, .dead, .dead, .dead, .dead, .dead, .dead, .d (.arr (y289.map rRecord)), IN (i305 : Int)] ++ List.replicate 107 .dead : List V)) (fun (i305 : Nat) (_ : Unit) => ([] : Fo)) (fun (r : Bool) => ((BO r : V), ([] : Fo))) ?_ ?_ () _ (fun kk => by kernel_rfl) h
                  · clear h
                    rintro next_nx306 nx306 i305 hi_i305 hnx306 ⟨⟩ r h
                    try dsimp only at h
                    have hn_i305 : i305 < 4611686018427387904 := by omega
                    have hx_x307 := get_map rRecord y289 i305 hi_i305
                    generalize y289[i305] = x307 at h hx_x307
                    have hd_i305 : (decide ((i305 : Int) < (y289.length : Int))) = true := decide_eq_true (by omega)
                    conv => lhs; whnf
                    try rw [len_of (l := y289) (r := rRecord)]
                    try (first | rw [hd_i305] | (split; (first | (rename_i hx; exact absurd (hd_i305.symm.trans hx) (by decide)) | (rotate_left; rename_i hx; exact absurd (hd_i305.symm.trans hx) (by decide)))))
                    conv => lhs; whnf
                    try (rw [decide_eq_true hq_x307]; conv => lhs; whnf)
                    rw [hx_x307]
                    conv => lhs; whnf
                    rw [hx_x307]
                    conv => lhs; whnf
                    obtain ⟨y308, h_y308, h⟩ := callK_inv h
                    rw [cl_eq hcl (L_spec_ValidRecord x307 h_y308)]
                    rotate_left
                    · show _ = _; kernel_rfl
                    · show _ = _; kernel_rfl
                    conv => lhs; whnf
                    cases hb309 : y308
                    · replace h := ifF h (booF hb309); conv => lhs; whnf
                      try (rw [hb309]; conv => lhs; whnf)
                      try (rw [hb309]; conv => lhs; whnf)
                      try (rw [hb309]; conv => lhs; whnf)
                      try (rw [hb309]; conv => lhs; whnf)
                      obtain rfl := Option.some.inj h; show _ = _; kernel_rfl

                    · replace h := ifT h hb309; conv => lhs; whnf
                      try (rw [hb309]; conv => lhs; whnf)
                      try (rw [hb309]; conv => lhs; whnf)
                      cases hb310 : (decide ((i305 : Int) > 0))
                      · replace h := ifF h (decF hb310); conv => lhs; whnf
                        try (rw [hb310]; conv => lhs; whnf)
                        try (rw [hb310]; conv => lhs; whnf)
                        try (rw [hb310]; conv => lhs; whnf)
                        try (rw [hb310]; conv => lhs; whnf)
                        try (rw [hb310]; conv => lhs; whnf)
                        try (rw [hb310]; conv => lhs; whnf)
                        try (rw [hb310]; conv => lhs; whnf)
                        try (rw [hb310]; conv => lhs; whnf)
                        try (rw [hb310]; conv => lhs; whnf)
                        try (rw [hb310]; conv => lhs; whnf)
                        try (rw [hb309]; conv => lhs; whnf)
                        try (rw [hb310]; conv => lhs; whnf)
                        try (rw [hb309]; conv => lhs; whnf)
                        rw [wrap_nat i305 (by have := hn_i305; omega)]
                        exact hnx306 _ _ _ _ (fun kk => by kernel_rfl) h
                      · replace h := ifT h (decT hb310); conv => lhs; whnf
                        try (rw [hb310]; conv => lhs; whnf)
                        try (rw [hb310]; conv => lhs; whnf)
                        try (rw [hb310]; conv => lhs; whnf)
                        obtain ⟨x311, hq_x311, hx_x311', h⟩ := getK_inv h
                        have hx_x311 := get_of (r := rRecord) hx_x311'
                        try (rw [decide_eq_true hq_x311]; conv => lhs; whnf)
                        rw [hx_x311]
                        conv => lhs; whnf
                        try (rw [hb310]; conv => lhs; whnf)
                        rw [hx_x311]
                        conv => lhs; whnf
                        try (rw [hb310]; conv => lhs; whnf)
                        try (rw [hb310]; conv => lhs; whnf)
                        try (rw [hb310]; conv => lhs; whnf)
                        try (rw [decide_eq_true hq_x307]; conv => lhs; whnf)
                        rw [hx_x307]
                        conv => lhs; whnf
                        try (rw [hb310]; conv => lhs; whnf)
                        rw [hx_x307]
                        conv => lhs; whnf
                        try (rw [hb310]; conv => lhs; whnf)
                        obtain ⟨y312, h_y312, h⟩ := callK_inv h
                        rw [cl_eq hcl (L_spec_LessRecord x311 x307 h_y312)]
                        rotate_left
                        · show _ = _; kernel_rfl
                        · show _ = _; kernel_rfl
                        conv => lhs; whnf
                        try (rw [hb310]; conv => lhs; whnf)
                        try (rw [hb309]; conv => lhs; whnf)
                        try (rw [hb310]; conv => lhs; whnf)
                        try (rw [hb309]; conv => lhs; whnf)
                        cases hb313 : y312
                        · replace h := ifF h (booF hb313); conv => lhs; whnf
                          obtain rfl := Option.some.inj h; show _ = _; kernel_rfl

                        · replace h := ifT h hb313; conv => lhs; whnf
                          rw [wrap_nat i305 (by have := hn_i305; omega)]
                          exact hnx306 _ _ _ _ (fun kk => by kernel_rfl) h
                  · clear h
                    rintro next_nx306 ⟨⟩ r h
                    try dsimp only at h
                    have hd_i305 : (decide ((y289.length : Int) < (y289.length : Int))) = false := decide_eq_false (by omega)
                    conv => lhs; whnf
                    try rw [len_of (l := y289) (r := rRecord)]
                    try (first | rw [hd_i305] | (split; (first | (rename_i hx; exact absurd (hd_i305.symm.trans hx) (by decide)) | (rotate_left; rename_i hx; exact absurd (hd_i305.symm.trans hx) (by decide)))))
                    conv => lhs; whnf
                    obtain rfl := Option.some.inj h; show _ = _; kernel_rfl

            · replace h := ifT h (decT hb287); conv => lhs; whnf
              obtain ⟨x288, hq_x288, hx_x288', h⟩ := getK_inv h
              have hx_x288 := get_of (r := rRecord) hx_x288'
              try (rw [decide_eq_true hq_x288]; conv => lhs; whnf)
              rw [hx_x288]
              conv => lhs; whnf
              rw [hx_x288]
              conv => lhs; whnf
              obtain ⟨hg314, h⟩ := grd_inv h
              rw [app_eq hg314 ?h1 ?h2]
              case h1 => first | exact rfl | (simp only [List.length_map, List.length_cons, List.length_nil]; done) | (rw [List.length_map]; rfl)
              case h2 => exact rfl
              conv => lhs; whnf
              first | (rw [map_app_of (r := rRecord) (l := v285) (m := ([x288] : List Record)) ?hh]; case hh => exact rfl) | skip
              exact hnx286 _ _ _ _ (fun kk => by kernel_rfl) h
          · replace h := ifT h hb216; conv => lhs; whnf
            try (rw [hb216]; conv => lhs; whnf)
            try (rw [hb216]; conv => lhs; whnf)
            obtain ⟨y217, h_y217, h⟩ := callK_inv h
            rw [cl_eq hcl (L_impl_LessRecord y4 y6 h_y217)]
            rotate_left
            · show _ = _; kernel_rfl
            · show _ = _; kernel_rfl
            conv => lhs; whnf
            try (rw [hb216]; conv => lhs; whnf)
            cases hb218 : y217
            · replace h := ifF h (booF hb218); conv => lhs; whnf
              try (rw [hb218]; conv => lhs; whnf)
              try (rw [hb218]; conv => lhs; whnf)
              try (rw [hb218]; conv => lhs; whnf)
              try (rw [hb218]; conv => lhs; whnf)
              obtain ⟨y252, h_y252, h⟩ := callK_inv h
              rw [cl_eq hcl (L_spec_A8Records a_0 h_y252)]
              rotate_left
              · show _ = _; kernel_rfl
              · show _ = _; kernel_rfl
              conv => lhs; whnf
              try rw [len_of (l := y252) (r := rRecord)]
              refine loop_iter hlp (fun ((v253, v254) : (Int × (List Record))) => ([.dead, .dead, .dead, .dead, .dead, .dead, .dead, .d (.arr (y252.map rRecord)), .sl 0, IN v253] ++ List.replicate 109 .dead : List V)) (fun ((v253, v254) : (Int × (List Record))) => ([some (.arr 46 5 (v254.map rRecord))] : Fo)) (fun (r : Bool) => ((BO r : V), ([] : Fo))) ?_ ((IntKind.i64.wrap ((y252.length : Int) - 1)), ([] : List Record)) _ (fun kk => by kernel_rfl) h
              clear h
              rintro next_nx255 nx255 hnx255 ⟨v253, v254⟩ r h
              try dsimp only at h
              conv => lhs; whnf
              cases hb256 : (decide (v253 ≥ 0))
              · replace h := ifF h (decF hb256); conv => lhs; whnf
                obtain ⟨y258, h_y258, h⟩ := callK_inv h
                rw [cl_eq hcl (L_impl_SortRecords y252 h_y258)]
                rotate_left
                · show _ = _; kernel_rfl
                · show _ = _; kernel_rfl
                conv => lhs; whnf
                obtain ⟨y259, h_y259, h⟩ := callK_inv h
                rw [cl_eq hcl (L_impl_SortRecords v254 h_y259)]
                rotate_left
                · show _ = _; kernel_rfl
                · show _ = _; kernel_rfl
                conv => lhs; whnf
                obtain ⟨y260, h_y260, h⟩ := callK_inv h
                rw [cl_eq hcl (L_laws_a8Same y258 y259 h_y260)]
                rotate_left
                · show _ = _; kernel_rfl
                · show _ = _; kernel_rfl
                conv => lhs; whnf
                cases hb261 : y260
                · replace h := ifF h (booF hb261); conv => lhs; whnf
                  try (rw [hb261]; conv => lhs; whnf)
                  try (rw [hb261]; conv => lhs; whnf)
                  try (rw [hb261]; conv => lhs; whnf)
                  try (rw [hb261]; conv => lhs; whnf)
                  try (rw [hb261]; conv => lhs; whnf)
                  obtain rfl := Option.some.inj h; show _ = _; kernel_rfl

                · replace h := ifT h hb261; conv => lhs; whnf
                  try (rw [hb261]; conv => lhs; whnf)
                  try (rw [hb261]; conv => lhs; whnf)
                  obtain ⟨y262, h_y262, h⟩ := callK_inv h
                  rw [cl_eq hcl (L_impl_SortRecords y258 h_y262)]
                  rotate_left
                  · show _ = _; kernel_rfl
                  · show _ = _; kernel_rfl
                  conv => lhs; whnf
                  try (rw [hb261]; conv => lhs; whnf)
                  obtain ⟨y263, h_y263, h⟩ := callK_inv h
                  rw [cl_eq hcl (L_laws_a8Same y258 y262 h_y263)]
                  rotate_left
                  · show _ = _; kernel_rfl
                  · show _ = _; kernel_rfl
                  conv => lhs; whnf
                  try (rw [hb261]; conv => lhs; whnf)
                  try (rw [hb261]; conv => lhs; whnf)
                  cases hb264 : y263
                  · replace h := ifF h (booF hb264); conv => lhs; whnf
                    obtain rfl := Option.some.inj h; show _ = _; kernel_rfl

                  · replace h := ifT h hb264; conv => lhs; whnf
                    obtain ⟨hl_i274, h⟩ := grd_inv h
                    refine loop_for hlp (l := y258) hl_i274 (fun (i274 : Nat) (_ : Unit) => ([.dead, .dead, .dead, .dead, .dead, .dead, .dead, .dead, .dead, .dead, .d (.arr (y258.map rRecord)), IN (i274 : Int)] ++ List.replicate 107 .dead : List V)) (fun (i274 : Nat) (_ : Unit) => ([] : Fo)) (fun (r : Bool) => ((BO r : V), ([] : Fo))) ?_ ?_ () _ (fun kk => by kernel_rfl) h
                    · clear h
                      rintro next_nx275 nx275 i274 hi_i274 hnx275 ⟨⟩ r h
                      try dsimp only at h
                      have hn_i274 : i274 < 4611686018427387904 := by omega
                      have hx_x276 := get_map rRecord y258 i274 hi_i274
                      generalize y258[i274] = x276 at h hx_x276
                      have hd_i274 : (decide ((i274 : Int) < (y258.length : Int))) = true := decide_eq_true (by omega)
                      conv => lhs; whnf
                      try rw [len_of (l := y258) (r := rRecord)]
                      try (first | rw [hd_i274] | (split; (first | (rename_i hx; exact absurd (hd_i274.symm.trans hx) (by decide)) | (rotate_left; rename_i hx; exact absurd (hd_i274.symm.trans hx) (by decide)))))
                      conv => lhs; whnf
                      try (rw [decide_eq_true hq_x276]; conv => lhs; whnf)
                      rw [hx_x276]
                      conv => lhs; whnf
                      rw [hx_x276]
                      conv => lhs; whnf
                      obtain ⟨y277, h_y277, h⟩ := callK_inv h
                      rw [cl_eq hcl (L_spec_ValidRecord x276 h_y277)]
                      rotate_left
                      · show _ = _; kernel_rfl
                      · show _ = _; kernel_rfl
                      conv => lhs; whnf
                      cases hb278 : y277
                      · replace h := ifF h (booF hb278); conv => lhs; whnf
                        try (rw [hb278]; conv => lhs; whnf)
                        try (rw [hb278]; conv => lhs; whnf)
                        try (rw [hb278]; conv => lhs; whnf)
                        try (rw [hb278]; conv => lhs; whnf)
                        obtain rfl := Option.some.inj h; show _ = _; kernel_rfl

                      · replace h := ifT h hb278; conv => lhs; whnf
                        try (rw [hb278]; conv => lhs; whnf)
                        try (rw [hb278]; conv => lhs; whnf)
                        cases hb279 : (decide ((i274 : Int) > 0))
                        · replace h := ifF h (decF hb279); conv => lhs; whnf
                          try (rw [hb279]; conv => lhs; whnf)
                          try (rw [hb279]; conv => lhs; whnf)
                          try (rw [hb279]; conv => lhs; whnf)
                          try (rw [hb279]; conv => lhs; whnf)
                          try (rw [hb279]; conv => lhs; whnf)
                          try (rw [hb279]; conv => lhs; whnf)
                          try (rw [hb279]; conv => lhs; whnf)
                          try (rw [hb279]; conv => lhs; whnf)
                          try (rw [hb279]; conv => lhs; whnf)
                          try (rw [hb279]; conv => lhs; whnf)
                          try (rw [hb278]; conv => lhs; whnf)
                          try (rw [hb279]; conv => lhs; whnf)
                          try (rw [hb278]; conv => lhs; whnf)
                          rw [wrap_nat i274 (by have := hn_i274; omega)]
                          exact hnx275 _ _ _ _ (fun kk => by kernel_rfl) h
                        · replace h := ifT h (decT hb279); conv => lhs; whnf
                          try (rw [hb279]; conv => lhs; whnf)
                          try (rw [hb279]; conv => lhs; whnf)
                          try (rw [hb279]; conv => lhs; whnf)
                          obtain ⟨x280, hq_x280, hx_x280', h⟩ := getK_inv h
                          have hx_x280 := get_of (r := rRecord) hx_x280'
                          try (rw [decide_eq_true hq_x280]; conv => lhs; whnf)
                          rw [hx_x280]
                          conv => lhs; whnf
                          try (rw [hb279]; conv => lhs; whnf)
                          rw [hx_x280]
                          conv => lhs; whnf
                          try (rw [hb279]; conv => lhs; whnf)
                          try (rw [hb279]; conv => lhs; whnf)
                          try (rw [hb279]; conv => lhs; whnf)
                          try (rw [decide_eq_true hq_x276]; conv => lhs; whnf)
                          rw [hx_x276]
                          conv => lhs; whnf
                          try (rw [hb279]; conv => lhs; whnf)
                          rw [hx_x276]
                          conv => lhs; whnf
                          try (rw [hb279]; conv => lhs; whnf)
                          obtain ⟨y281, h_y281, h⟩ := callK_inv h
                          rw [cl_eq hcl (L_spec_LessRecord x280 x276 h_y281)]
                          rotate_left
                          · show _ = _; kernel_rfl
                          · show _ = _; kernel_rfl
                          conv => lhs; whnf
                          try (rw [hb279]; conv => lhs; whnf)
                          try (rw [hb278]; conv => lhs; whnf)
                          try (rw [hb279]; conv => lhs; whnf)
                          try (rw [hb278]; conv => lhs; whnf)
                          cases hb282 : y281
                          · replace h := ifF h (booF hb282); conv => lhs; whnf
                            obtain rfl := Option.some.inj h; show _ = _; kernel_rfl

                          · replace h := ifT h hb282; conv => lhs; whnf
                            rw [wrap_nat i274 (by have := hn_i274; omega)]
                            exact hnx275 _ _ _ _ (fun kk => by kernel_rfl) h
                    · clear h
                      rintro next_nx275 ⟨⟩ r h
                      try dsimp only at h
                      have hd_i274 : (decide ((y258.length : Int) < (y258.length : Int))) = false := decide_eq_false (by omega)
                      conv => lhs; whnf
                      try rw [len_of (l := y258) (r := rRecord)]
                      try (first | rw [hd_i274] | (split; (first | (rename_i hx; exact absurd (hd_i274.symm.trans hx) (by decide)) | (rotate_left; rename_i hx; exact absurd (hd_i274.symm.trans hx) (by decide)))))
                      conv => lhs; whnf
                      obtain rfl := Option.some.inj h; show _ = _; kernel_rfl

              · replace h := ifT h (decT hb256); conv => lhs; whnf
                obtain ⟨x257, hq_x257, hx_x257', h⟩ := getK_inv h
                have hx_x257 := get_of (r := rRecord) hx_x257'
                try (rw [decide_eq_true hq_x257]; conv => lhs; whnf)
                rw [hx_x257]
                conv => lhs; whnf
                rw [hx_x257]
                conv => lhs; whnf
                obtain ⟨hg315, h⟩ := grd_inv h
                rw [app_eq hg315 ?h1 ?h2]
                case h1 => first | exact rfl | (simp only [List.length_map, List.length_cons, List.length_nil]; done) | (rw [List.length_map]; rfl)
                case h2 => exact rfl
                conv => lhs; whnf
                first | (rw [map_app_of (r := rRecord) (l := v254) (m := ([x257] : List Record)) ?hh]; case hh => exact rfl) | skip
                exact hnx255 _ _ _ _ (fun kk => by kernel_rfl) h
            · replace h := ifT h hb218; conv => lhs; whnf
              try (rw [hb218]; conv => lhs; whnf)
              try (rw [hb218]; conv => lhs; whnf)
              obtain ⟨y219, h_y219, h⟩ := callK_inv h
              rw [cl_eq hcl (L_impl_LessRecord y2 y6 h_y219)]
              rotate_left
              · show _ = _; kernel_rfl
              · show _ = _; kernel_rfl
              conv => lhs; whnf
              try (rw [hb218]; conv => lhs; whnf)
              try (rw [hb218]; conv => lhs; whnf)
              cases hb220 : y219
              · replace h := ifF h (booF hb220); conv => lhs; whnf
                obtain rfl := Option.some.inj h; show _ = _; kernel_rfl

              · replace h := ifT h hb220; conv => lhs; whnf
                obtain ⟨y221, h_y221, h⟩ := callK_inv h
                rw [cl_eq hcl (L_spec_A8Records a_0 h_y221)]
                rotate_left
                · show _ = _; kernel_rfl
                · show _ = _; kernel_rfl
                conv => lhs; whnf
                try rw [len_of (l := y221) (r := rRecord)]
                refine loop_iter hlp (fun ((v222, v223) : (Int × (List Record))) => ([.dead, .dead, .dead, .dead, .dead, .dead, .dead, .d (.arr (y221.map rRecord)), .sl 0, IN v222] ++ List.replicate 109 .dead : List V)) (fun ((v222, v223) : (Int × (List Record))) => ([some (.arr 46 5 (v223.map rRecord))] : Fo)) (fun (r : Bool) => ((BO r : V), ([] : Fo))) ?_ ((IntKind.i64.wrap ((y221.length : Int) - 1)), ([] : List Record)) _ (fun kk => by kernel_rfl) h
                clear h
                rintro next_nx224 nx224 hnx224 ⟨v222, v223⟩ r h
                try dsimp only at h
                conv => lhs; whnf
                cases hb225 : (decide (v222 ≥ 0))
                · replace h := ifF h (decF hb225); conv => lhs; whnf
                  obtain ⟨y227, h_y227, h⟩ := callK_inv h
                  rw [cl_eq hcl (L_impl_SortRecords y221 h_y227)]
                  rotate_left
                  · show _ = _; kernel_rfl
                  · show _ = _; kernel_rfl
                  conv => lhs; whnf
                  obtain ⟨y228, h_y228, h⟩ := callK_inv h
                  rw [cl_eq hcl (L_impl_SortRecords v223 h_y228)]
                  rotate_left
                  · show _ = _; kernel_rfl
                  · show _ = _; kernel_rfl
                  conv => lhs; whnf
                  obtain ⟨y229, h_y229, h⟩ := callK_inv h
                  rw [cl_eq hcl (L_laws_a8Same y227 y228 h_y229)]
                  rotate_left
                  · show _ = _; kernel_rfl
                  · show _ = _; kernel_rfl
                  conv => lhs; whnf
                  cases hb230 : y229
                  · replace h := ifF h (booF hb230); conv => lhs; whnf
                    try (rw [hb230]; conv => lhs; whnf)
                    try (rw [hb230]; conv => lhs; whnf)
                    try (rw [hb230]; conv => lhs; whnf)
                    try (rw [hb230]; conv => lhs; whnf)
                    try (rw [hb230]; conv => lhs; whnf)
                    obtain rfl := Option.some.inj h; show _ = _; kernel_rfl

                  · replace h := ifT h hb230; conv => lhs; whnf
                    try (rw [hb230]; conv => lhs; whnf)
                    try (rw [hb230]; conv => lhs; whnf)
                    obtain ⟨y231, h_y231, h⟩ := callK_inv h
                    rw [cl_eq hcl (L_impl_SortRecords y227 h_y231)]
                    rotate_left
                    · show _ = _; kernel_rfl
                    · show _ = _; kernel_rfl
                    conv => lhs; whnf
                    try (rw [hb230]; conv => lhs; whnf)
                    obtain ⟨y232, h_y232, h⟩ := callK_inv h
                    rw [cl_eq hcl (L_laws_a8Same y227 y231 h_y232)]
                    rotate_left
                    · show _ = _; kernel_rfl
                    · show _ = _; kernel_rfl
                    conv => lhs; whnf
                    try (rw [hb230]; conv => lhs; whnf)
                    try (rw [hb230]; conv => lhs; whnf)
                    cases hb233 : y232
                    · replace h := ifF h (booF hb233); conv => lhs; whnf
                      obtain rfl := Option.some.inj h; show _ = _; kernel_rfl

                    · replace h := ifT h hb233; conv => lhs; whnf
                      obtain ⟨hl_i243, h⟩ := grd_inv h
                      refine loop_for hlp (l := y227) hl_i243 (fun (i243 : Nat) (_ : Unit) => ([.dead, .dead, .dead, .dead, .dead, .dead, .dead, .dead, .dead, .dead, .d (.arr (y227.map rRecord)), IN (i243 : Int)] ++ List.replicate 107 .dead : List V)) (fun (i243 : Nat) (_ : Unit) => ([] : Fo)) (fun (r : Bool) => ((BO r : V), ([] : Fo))) ?_ ?_ () _ (fun kk => by kernel_rfl) h
                      · clear h
                        rintro next_nx244 nx244 i243 hi_i243 hnx244 ⟨⟩ r h
                        try dsimp only at h
                        have hn_i243 : i243 < 4611686018427387904 := by omega
                        have hx_x245 := get_map rRecord y227 i243 hi_i243
                        generalize y227[i243] = x245 at h hx_x245
                        have hd_i243 : (decide ((i243 : Int) < (y227.length : Int))) = true := decide_eq_true (by omega)
                        conv => lhs; whnf
                        try rw [len_of (l := y227) (r := rRecord)]
                        try (first | rw [hd_i243] | (split; (first | (rename_i hx; exact absurd (hd_i243.symm.trans hx) (by decide)) | (rotate_left; rename_i hx; exact absurd (hd_i243.symm.trans hx) (by decide)))))
                        conv => lhs; whnf
                        try (rw [decide_eq_true hq_x245]; conv => lhs; whnf)
                        rw [hx_x245]
                        conv => lhs; whnf
                        rw [hx_x245]
                        conv => lhs; whnf
                        obtain ⟨y246, h_y246, h⟩ := callK_inv h
                        rw [cl_eq hcl (L_spec_ValidRecord x245 h_y246)]
                        rotate_left
                        · show _ = _; kernel_rfl
                        · show _ = _; kernel_rfl
                        conv => lhs; whnf
                        cases hb247 : y246
                        · replace h := ifF h (booF hb247); conv => lhs; whnf
                          try (rw [hb247]; conv => lhs; whnf)
                          try (rw [hb247]; conv => lhs; whnf)
                          try (rw [hb247]; conv => lhs; whnf)
                          try (rw [hb247]; conv => lhs; whnf)
                          obtain rfl := Option.some.inj h; show _ = _; kernel_rfl

                        · replace h := ifT h hb247; conv => lhs; whnf
                          try (rw [hb247]; conv => lhs; whnf)
                          try (rw [hb247]; conv => lhs; whnf)
                          cases hb248 : (decide ((i243 : Int) > 0))
                          · replace h := ifF h (decF hb248); conv => lhs; whnf
                            try (rw [hb248]; conv => lhs; whnf)
                            try (rw [hb248]; conv => lhs; whnf)
                            try (rw [hb248]; conv => lhs; whnf)
                            try (rw [hb248]; conv => lhs; whnf)
                            try (rw [hb248]; conv => lhs; whnf)
                            try (rw [hb248]; conv => lhs; whnf)
                            try (rw [hb248]; conv => lhs; whnf)
                            try (rw [hb248]; conv => lhs; whnf)
                            try (rw [hb248]; conv => lhs; whnf)
                            try (rw [hb248]; conv => lhs; whnf)
                            try (rw [hb247]; conv => lhs; whnf)
                            try (rw [hb248]; conv => lhs; whnf)
                            try (rw [hb247]; conv => lhs; whnf)
                            rw [wrap_nat i243 (by have := hn_i243; omega)]
                            exact hnx244 _ _ _ _ (fun kk => by kernel_rfl) h
                          · replace h := ifT h (decT hb248); conv => lhs; whnf
                            try (rw [hb248]; conv => lhs; whnf)
                            try (rw [hb248]; conv => lhs; whnf)
                            try (rw [hb248]; conv => lhs; whnf)
                            obtain ⟨x249, hq_x249, hx_x249', h⟩ := getK_inv h
                            have hx_x249 := get_of (r := rRecord) hx_x249'
                            try (rw [decide_eq_true hq_x249]; conv => lhs; whnf)
                            rw [hx_x249]
                            conv => lhs; whnf
                            try (rw [hb248]; conv => lhs; whnf)
                            rw [hx_x249]
                            conv => lhs; whnf
                            try (rw [hb248]; conv => lhs; whnf)
                            try (rw [hb248]; conv => lhs; whnf)
                            try (rw [hb248]; conv => lhs; whnf)
                            try (rw [decide_eq_true hq_x245]; conv => lhs; whnf)
                            rw [hx_x245]
                            conv => lhs; whnf
                            try (rw [hb248]; conv => lhs; whnf)
                            rw [hx_x245]
                            conv => lhs; whnf
                            try (rw [hb248]; conv => lhs; whnf)
                            obtain ⟨y250, h_y250, h⟩ := callK_inv h
                            rw [cl_eq hcl (L_spec_LessRecord x249 x245 h_y250)]
                            rotate_left
                            · show _ = _; kernel_rfl
                            · show _ = _; kernel_rfl
                            conv => lhs; whnf
                            try (rw [hb248]; conv => lhs; whnf)
                            try (rw [hb247]; conv => lhs; whnf)
                            try (rw [hb248]; conv => lhs; whnf)
                            try (rw [hb247]; conv => lhs; whnf)
                            cases hb251 : y250
                            · replace h := ifF h (booF hb251); conv => lhs; whnf
                              obtain rfl := Option.some.inj h; show _ = _; kernel_rfl

                            · replace h := ifT h hb251; conv => lhs; whnf
                              rw [wrap_nat i243 (by have := hn_i243; omega)]
                              exact hnx244 _ _ _ _ (fun kk => by kernel_rfl) h
                      · clear h
                        rintro next_nx244 ⟨⟩ r h
                        try dsimp only at h
                        have hd_i243 : (decide ((y227.length : Int) < (y227.length : Int))) = false := decide_eq_false (by omega)
                        conv => lhs; whnf
                        try rw [len_of (l := y227) (r := rRecord)]
                        try (first | rw [hd_i243] | (split; (first | (rename_i hx; exact absurd (hd_i243.symm.trans hx) (by decide)) | (rotate_left; rename_i hx; exact absurd (hd_i243.symm.trans hx) (by decide)))))
                        conv => lhs; whnf
                        obtain rfl := Option.some.inj h; show _ = _; kernel_rfl

                · replace h := ifT h (decT hb225); conv => lhs; whnf
                  obtain ⟨x226, hq_x226, hx_x226', h⟩ := getK_inv h
                  have hx_x226 := get_of (r := rRecord) hx_x226'
                  try (rw [decide_eq_true hq_x226]; conv => lhs; whnf)
                  rw [hx_x226]
                  conv => lhs; whnf
                  rw [hx_x226]
                  conv => lhs; whnf
                  obtain ⟨hg316, h⟩ := grd_inv h
                  rw [app_eq hg316 ?h1 ?h2]
                  case h1 => first | exact rfl | (simp only [List.length_map, List.length_cons, List.length_nil]; done) | (rw [List.length_map]; rfl)
                  case h2 => exact rfl
                  conv => lhs; whnf
                  first | (rw [map_app_of (r := rRecord) (l := v223) (m := ([x226] : List Record)) ?hh]; case hh => exact rfl) | skip
                  exact hnx224 _ _ _ _ (fun kk => by kernel_rfl) h
      · replace h := ifT h hb113; conv => lhs; whnf
        cases hb114 : ((((IntKind.i64.wrap (0 + 1)) : Int) == 0) == ((y2.Key.toList == y4.Key.toList) && ((y2.Seq == y4.Seq) && ((y2.Kind == y4.Kind) && ((y2.Value.toList == y4.Value.toList) && ((y2.End.toList == y4.End.toList) && true))))))
        · replace h := ifF h (booF hb114); conv => lhs; whnf
          try (rw [hb114]; conv => lhs; whnf)
          try (rw [hb114]; conv => lhs; whnf)
          obtain rfl := Option.some.inj h; show _ = _; kernel_rfl

        · replace h := ifT h hb114; conv => lhs; whnf
          try (rw [hb114]; conv => lhs; whnf)
          try (rw [hb114]; conv => lhs; whnf)
          obtain ⟨y115, h_y115, h⟩ := callK_inv h
          rw [cl_eq hcl (L_impl_LessRecord y2 y4 h_y115)]
          rotate_left
          · show _ = _; kernel_rfl
          · show _ = _; kernel_rfl
          conv => lhs; whnf
          cases hb116 : y115
          · replace h := ifF h (booF hb116); conv => lhs; whnf
            try (rw [hb116]; conv => lhs; whnf)
            try (rw [hb116]; conv => lhs; whnf)
            try (rw [hb116]; conv => lhs; whnf)
            obtain ⟨y183, h_y183, h⟩ := callK_inv h
            rw [cl_eq hcl (L_spec_A8Records a_0 h_y183)]
            rotate_left
            · show _ = _; kernel_rfl
            · show _ = _; kernel_rfl
            conv => lhs; whnf
            try rw [len_of (l := y183) (r := rRecord)]
            refine loop_iter hlp (fun ((v184, v185) : (Int × (List Record))) => ([.dead, .dead, .dead, .dead, .dead, .dead, .dead, .d (.arr (y183.map rRecord)), .sl 0, IN v184] ++ List.replicate 109 .dead : List V)) (fun ((v184, v185) : (Int × (List Record))) => ([some (.arr 46 5 (v185.map rRecord))] : Fo)) (fun (r : Bool) => ((BO r : V), ([] : Fo))) ?_ ((IntKind.i64.wrap ((y183.length : Int) - 1)), ([] : List Record)) _ (fun kk => by kernel_rfl) h
            clear h
            rintro next_nx186 nx186 hnx186 ⟨v184, v185⟩ r h
            try dsimp only at h
            conv => lhs; whnf
            cases hb187 : (decide (v184 ≥ 0))
            · replace h := ifF h (decF hb187); conv => lhs; whnf
              obtain ⟨y189, h_y189, h⟩ := callK_inv h
              rw [cl_eq hcl (L_impl_SortRecords y183 h_y189)]
              rotate_left
              · show _ = _; kernel_rfl
              · show _ = _; kernel_rfl
              conv => lhs; whnf
              obtain ⟨y190, h_y190, h⟩ := callK_inv h
              rw [cl_eq hcl (L_impl_SortRecords v185 h_y190)]
              rotate_left
              · show _ = _; kernel_rfl
              · show _ = _; kernel_rfl
              conv => lhs; whnf
              obtain ⟨y191, h_y191, h⟩ := callK_inv h
              rw [cl_eq hcl (L_laws_a8Same y189 y190 h_y191)]
              rotate_left
              · show _ = _; kernel_rfl
              · show _ = _; kernel_rfl
              conv => lhs; whnf
              cases hb192 : y191
              · replace h := ifF h (booF hb192); conv => lhs; whnf
                try (rw [hb192]; conv => lhs; whnf)
                try (rw [hb192]; conv => lhs; whnf)
                try (rw [hb192]; conv => lhs; whnf)
                try (rw [hb192]; conv => lhs; whnf)
                try (rw [hb192]; conv => lhs; whnf)
                obtain rfl := Option.some.inj h; show _ = _; kernel_rfl

              · replace h := ifT h hb192; conv => lhs; whnf
                try (rw [hb192]; conv => lhs; whnf)
                try (rw [hb192]; conv => lhs; whnf)
                obtain ⟨y193, h_y193, h⟩ := callK_inv h
                rw [cl_eq hcl (L_impl_SortRecords y189 h_y193)]
                rotate_left
                · show _ = _; kernel_rfl
                · show _ = _; kernel_rfl
                conv => lhs; whnf
                try (rw [hb192]; conv => lhs; whnf)
                obtain ⟨y194, h_y194, h⟩ := callK_inv h
                rw [cl_eq hcl (L_laws_a8Same y189 y193 h_y194)]
                rotate_left
                · show _ = _; kernel_rfl
                · show _ = _; kernel_rfl
                conv => lhs; whnf
                try (rw [hb192]; conv => lhs; whnf)
                try (rw [hb192]; conv => lhs; whnf)
                cases hb195 : y194
                · replace h := ifF h (booF hb195); conv => lhs; whnf
                  obtain rfl := Option.some.inj h; show _ = _; kernel_rfl

                · replace h := ifT h hb195; conv => lhs; whnf
                  obtain ⟨hl_i205, h⟩ := grd_inv h
                  refine loop_for hlp (l := y189) hl_i205 (fun (i205 : Nat) (_ : Unit) => ([.dead, .dead, .dead, .dead, .dead, .dead, .dead, .dead, .dead, .dead, .d (.arr (y189.map rRecord)), IN (i205 : Int)] ++ List.replicate 107 .dead : List V)) (fun (i205 : Nat) (_ : Unit) => ([] : Fo)) (fun (r : Bool) => ((BO r : V), ([] : Fo))) ?_ ?_ () _ (fun kk => by kernel_rfl) h
                  · clear h
                    rintro next_nx206 nx206 i205 hi_i205 hnx206 ⟨⟩ r h
                    try dsimp only at h
                    have hn_i205 : i205 < 4611686018427387904 := by omega
                    have hx_x207 := get_map rRecord y189 i205 hi_i205
                    generalize y189[i205] = x207 at h hx_x207
                    have hd_i205 : (decide ((i205 : Int) < (y189.length : Int))) = true := decide_eq_true (by omega)
                    conv => lhs; whnf
                    try rw [len_of (l := y189) (r := rRecord)]
                    try (first | rw [hd_i205] | (split; (first | (rename_i hx; exact absurd (hd_i205.symm.trans hx) (by decide)) | (rotate_left; rename_i hx; exact absurd (hd_i205.symm.trans hx) (by decide)))))
                    conv => lhs; whnf
                    try (rw [decide_eq_true hq_x207]; conv => lhs; whnf)
                    rw [hx_x207]
                    conv => lhs; whnf
                    rw [hx_x207]
                    conv => lhs; whnf
                    obtain ⟨y208, h_y208, h⟩ := callK_inv h
                    rw [cl_eq hcl (L_spec_ValidRecord x207 h_y208)]
                    rotate_left
                    · show _ = _; kernel_rfl
                    · show _ = _; kernel_rfl
                    conv => lhs; whnf
                    cases hb209 : y208
                    · replace h := ifF h (booF hb209); conv => lhs; whnf
                      try (rw [hb209]; conv => lhs; whnf)
                      try (rw [hb209]; conv => lhs; whnf)
                      try (rw [hb209]; conv => lhs; whnf)
                      try (rw [hb209]; conv => lhs; whnf)
                      obtain rfl := Option.some.inj h; show _ = _; kernel_rfl

                    · replace h := ifT h hb209; conv => lhs; whnf
                      try (rw [hb209]; conv => lhs; whnf)
                      try (rw [hb209]; conv => lhs; whnf)
                      cases hb210 : (decide ((i205 : Int) > 0))
                      · replace h := ifF h (decF hb210); conv => lhs; whnf
                        try (rw [hb210]; conv => lhs; whnf)
                        try (rw [hb210]; conv => lhs; whnf)
                        try (rw [hb210]; conv => lhs; whnf)
                        try (rw [hb210]; conv => lhs; whnf)
                        try (rw [hb210]; conv => lhs; whnf)
                        try (rw [hb210]; conv => lhs; whnf)
                        try (rw [hb210]; conv => lhs; whnf)
                        try (rw [hb210]; conv => lhs; whnf)
                        try (rw [hb210]; conv => lhs; whnf)
                        try (rw [hb210]; conv => lhs; whnf)
                        try (rw [hb209]; conv => lhs; whnf)
                        try (rw [hb210]; conv => lhs; whnf)
                        try (rw [hb209]; conv => lhs; whnf)
                        rw [wrap_nat i205 (by have := hn_i205; omega)]
                        exact hnx206 _ _ _ _ (fun kk => by kernel_rfl) h
                      · replace h := ifT h (decT hb210); conv => lhs; whnf
                        try (rw [hb210]; conv => lhs; whnf)
                        try (rw [hb210]; conv => lhs; whnf)
                        try (rw [hb210]; conv => lhs; whnf)
                        obtain ⟨x211, hq_x211, hx_x211', h⟩ := getK_inv h
                        have hx_x211 := get_of (r := rRecord) hx_x211'
                        try (rw [decide_eq_true hq_x211]; conv => lhs; whnf)
                        rw [hx_x211]
                        conv => lhs; whnf
                        try (rw [hb210]; conv => lhs; whnf)
                        rw [hx_x211]
                        conv => lhs; whnf
                        try (rw [hb210]; conv => lhs; whnf)
                        try (rw [hb210]; conv => lhs; whnf)
                        try (rw [hb210]; conv => lhs; whnf)
                        try (rw [decide_eq_true hq_x207]; conv => lhs; whnf)
                        rw [hx_x207]
                        conv => lhs; whnf
                        try (rw [hb210]; conv => lhs; whnf)
                        rw [hx_x207]
                        conv => lhs; whnf
                        try (rw [hb210]; conv => lhs; whnf)
                        obtain ⟨y212, h_y212, h⟩ := callK_inv h
                        rw [cl_eq hcl (L_spec_LessRecord x211 x207 h_y212)]
                        rotate_left
                        · show _ = _; kernel_rfl
                        · show _ = _; kernel_rfl
                        conv => lhs; whnf
                        try (rw [hb210]; conv => lhs; whnf)
                        try (rw [hb209]; conv => lhs; whnf)
                        try (rw [hb210]; conv => lhs; whnf)
                        try (rw [hb209]; conv => lhs; whnf)
                        cases hb213 : y212
                        · replace h := ifF h (booF hb213); conv => lhs; whnf
                          obtain rfl := Option.some.inj h; show _ = _; kernel_rfl

                        · replace h := ifT h hb213; conv => lhs; whnf
                          rw [wrap_nat i205 (by have := hn_i205; omega)]
                          exact hnx206 _ _ _ _ (fun kk => by kernel_rfl) h
                  · clear h
                    rintro next_nx206 ⟨⟩ r h
                    try dsimp only at h
                    have hd_i205 : (decide ((y189.length : Int) < (y189.length : Int))) = false := decide_eq_false (by omega)
                    conv => lhs; whnf
                    try rw [len_of (l := y189) (r := rRecord)]
                    try (first | rw [hd_i205] | (split; (first | (rename_i hx; exact absurd (hd_i205.symm.trans hx) (by decide)) | (rotate_left; rename_i hx; exact absurd (hd_i205.symm.trans hx) (by decide)))))
                    conv => lhs; whnf
                    obtain rfl := Option.some.inj h; show _ = _; kernel_rfl

            · replace h := ifT h (decT hb187); conv => lhs; whnf
              obtain ⟨x188, hq_x188, hx_x188', h⟩ := getK_inv h
              have hx_x188 := get_of (r := rRecord) hx_x188'
              try (rw [decide_eq_true hq_x188]; conv => lhs; whnf)
              rw [hx_x188]
              conv => lhs; whnf
              rw [hx_x188]
              conv => lhs; whnf
              obtain ⟨hg317, h⟩ := grd_inv h
              rw [app_eq hg317 ?h1 ?h2]
              case h1 => first | exact rfl | (simp only [List.length_map, List.length_cons, List.length_nil]; done) | (rw [List.length_map]; rfl)
              case h2 => exact rfl
              conv => lhs; whnf
              first | (rw [map_app_of (r := rRecord) (l := v185) (m := ([x188] : List Record)) ?hh]; case hh => exact rfl) | skip
              exact hnx186 _ _ _ _ (fun kk => by kernel_rfl) h
          · replace h := ifT h hb116; conv => lhs; whnf
            try (rw [hb116]; conv => lhs; whnf)
            try (rw [hb116]; conv => lhs; whnf)
            obtain ⟨y117, h_y117, h⟩ := callK_inv h
            rw [cl_eq hcl (L_impl_LessRecord y4 y6 h_y117)]
            rotate_left
            · show _ = _; kernel_rfl
            · show _ = _; kernel_rfl
            conv => lhs; whnf
            try (rw [hb116]; conv => lhs; whnf)
            cases hb118 : y117
            · replace h := ifF h (booF hb118); conv => lhs; whnf
              try (rw [hb118]; conv => lhs; whnf)
              try (rw [hb118]; conv => lhs; whnf)
              try (rw [hb118]; conv => lhs; whnf)
              try (rw [hb118]; conv => lhs; whnf)
              obtain ⟨y152, h_y152, h⟩ := callK_inv h
              rw [cl_eq hcl (L_spec_A8Records a_0 h_y152)]
              rotate_left
              · show _ = _; kernel_rfl
              · show _ = _; kernel_rfl
              conv => lhs; whnf
              try rw [len_of (l := y152) (r := rRecord)]
              refine loop_iter hlp (fun ((v153, v154) : (Int × (List Record))) => ([.dead, .dead, .dead, .dead, .dead, .dead, .dead, .d (.arr (y152.map rRecord)), .sl 0, IN v153] ++ List.replicate 109 .dead : List V)) (fun ((v153, v154) : (Int × (List Record))) => ([some (.arr 46 5 (v154.map rRecord))] : Fo)) (fun (r : Bool) => ((BO r : V), ([] : Fo))) ?_ ((IntKind.i64.wrap ((y152.length : Int) - 1)), ([] : List Record)) _ (fun kk => by kernel_rfl) h
              clear h
              rintro next_nx155 nx155 hnx155 ⟨v153, v154⟩ r h
              try dsimp only at h
              conv => lhs; whnf
              cases hb156 : (decide (v153 ≥ 0))
              · replace h := ifF h (decF hb156); conv => lhs; whnf
                obtain ⟨y158, h_y158, h⟩ := callK_inv h
                rw [cl_eq hcl (L_impl_SortRecords y152 h_y158)]
                rotate_left
                · show _ = _; kernel_rfl
                · show _ = _; kernel_rfl
                conv => lhs; whnf
                obtain ⟨y159, h_y159, h⟩ := callK_inv h
                rw [cl_eq hcl (L_impl_SortRecords v154 h_y159)]
                rotate_left
                · show _ = _; kernel_rfl
                · show _ = _; kernel_rfl
                conv => lhs; whnf
                obtain ⟨y160, h_y160, h⟩ := callK_inv h
                rw [cl_eq hcl (L_laws_a8Same y158 y159 h_y160)]
                rotate_left
                · show _ = _; kernel_rfl
                · show _ = _; kernel_rfl
                conv => lhs; whnf
                cases hb161 : y160
                · replace h := ifF h (booF hb161); conv => lhs; whnf
                  try (rw [hb161]; conv => lhs; whnf)
                  try (rw [hb161]; conv => lhs; whnf)
                  try (rw [hb161]; conv => lhs; whnf)
                  try (rw [hb161]; conv => lhs; whnf)
                  try (rw [hb161]; conv => lhs; whnf)
                  obtain rfl := Option.some.inj h; show _ = _; kernel_rfl

                · replace h := ifT h hb161; conv => lhs; whnf
                  try (rw [hb161]; conv => lhs; whnf)
                  try (rw [hb161]; conv => lhs; whnf)
                  obtain ⟨y162, h_y162, h⟩ := callK_inv h
                  rw [cl_eq hcl (L_impl_SortRecords y158 h_y162)]
                  rotate_left
                  · show _ = _; kernel_rfl
                  · show _ = _; kernel_rfl
                  conv => lhs; whnf
                  try (rw [hb161]; conv => lhs; whnf)
                  obtain ⟨y163, h_y163, h⟩ := callK_inv h
                  rw [cl_eq hcl (L_laws_a8Same y158 y162 h_y163)]
                  rotate_left
                  · show _ = _; kernel_rfl
                  · show _ = _; kernel_rfl
                  conv => lhs; whnf
                  try (rw [hb161]; conv => lhs; whnf)
                  try (rw [hb161]; conv => lhs; whnf)
                  cases hb164 : y163
                  · replace h := ifF h (booF hb164); conv => lhs; whnf
                    obtain rfl := Option.some.inj h; show _ = _; kernel_rfl

                  · replace h := ifT h hb164; conv => lhs; whnf
                    obtain ⟨hl_i174, h⟩ := grd_inv h
                    refine loop_for hlp (l := y158) hl_i174 (fun (i174 : Nat) (_ : Unit) => ([.dead, .dead, .dead, .dead, .dead, .dead, .dead, .dead, .dead, .dead, .d (.arr (y158.map rRecord)), IN (i174 : Int)] ++ List.replicate 107 .dead : List V)) (fun (i174 : Nat) (_ : Unit) => ([] : Fo)) (fun (r : Bool) => ((BO r : V), ([] : Fo))) ?_ ?_ () _ (fun kk => by kernel_rfl) h
                    · clear h
                      rintro next_nx175 nx175 i174 hi_i174 hnx175 ⟨⟩ r h
                      try dsimp only at h
                      have hn_i174 : i174 < 4611686018427387904 := by omega
                      have hx_x176 := get_map rRecord y158 i174 hi_i174
                      generalize y158[i174] = x176 at h hx_x176
                      have hd_i174 : (decide ((i174 : Int) < (y158.length : Int))) = true := decide_eq_true (by omega)
                      conv => lhs; whnf
                      try rw [len_of (l := y158) (r := rRecord)]
                      try (first | rw [hd_i174] | (split; (first | (rename_i hx; exact absurd (hd_i174.symm.trans hx) (by decide)) | (rotate_left; rename_i hx; exact absurd (hd_i174.symm.trans hx) (by decide)))))
                      conv => lhs; whnf
                      try (rw [decide_eq_true hq_x176]; conv => lhs; whnf)
                      rw [hx_x176]
                      conv => lhs; whnf
                      rw [hx_x176]
                      conv => lhs; whnf
                      obtain ⟨y177, h_y177, h⟩ := callK_inv h
                      rw [cl_eq hcl (L_spec_ValidRecord x176 h_y177)]
                      rotate_left
                      · show _ = _; kernel_rfl
                      · show _ = _; kernel_rfl
                      conv => lhs; whnf
                      cases hb178 : y177
                      · replace h := ifF h (booF hb178); conv => lhs; whnf
                        try (rw [hb178]; conv => lhs; whnf)
                        try (rw [hb178]; conv => lhs; whnf)
                        try (rw [hb178]; conv => lhs; whnf)
                        try (rw [hb178]; conv => lhs; whnf)
                        obtain rfl := Option.some.inj h; show _ = _; kernel_rfl

                      · replace h := ifT h hb178; conv => lhs; whnf
                        try (rw [hb178]; conv => lhs; whnf)
                        try (rw [hb178]; conv => lhs; whnf)
                        cases hb179 : (decide ((i174 : Int) > 0))
                        · replace h := ifF h (decF hb179); conv => lhs; whnf
                          try (rw [hb179]; conv => lhs; whnf)
                          try (rw [hb179]; conv => lhs; whnf)
                          try (rw [hb179]; conv => lhs; whnf)
                          try (rw [hb179]; conv => lhs; whnf)
                          try (rw [hb179]; conv => lhs; whnf)
                          try (rw [hb179]; conv => lhs; whnf)
                          try (rw [hb179]; conv => lhs; whnf)
                          try (rw [hb179]; conv => lhs; whnf)
                          try (rw [hb179]; conv => lhs; whnf)
                          try (rw [hb179]; conv => lhs; whnf)
                          try (rw [hb178]; conv => lhs; whnf)
                          try (rw [hb179]; conv => lhs; whnf)
                          try (rw [hb178]; conv => lhs; whnf)
                          rw [wrap_nat i174 (by have := hn_i174; omega)]
                          exact hnx175 _ _ _ _ (fun kk => by kernel_rfl) h
                        · replace h := ifT h (decT hb179); conv => lhs; whnf
                          try (rw [hb179]; conv => lhs; whnf)
                          try (rw [hb179]; conv => lhs; whnf)
                          try (rw [hb179]; conv => lhs; whnf)
                          obtain ⟨x180, hq_x180, hx_x180', h⟩ := getK_inv h
                          have hx_x180 := get_of (r := rRecord) hx_x180'
                          try (rw [decide_eq_true hq_x180]; conv => lhs; whnf)
                          rw [hx_x180]
                          conv => lhs; whnf
                          try (rw [hb179]; conv => lhs; whnf)
                          rw [hx_x180]
                          conv => lhs; whnf
                          try (rw [hb179]; conv => lhs; whnf)
                          try (rw [hb179]; conv => lhs; whnf)
                          try (rw [hb179]; conv => lhs; whnf)
                          try (rw [decide_eq_true hq_x176]; conv => lhs; whnf)
                          rw [hx_x176]
                          conv => lhs; whnf
                          try (rw [hb179]; conv => lhs; whnf)
                          rw [hx_x176]
                          conv => lhs; whnf
                          try (rw [hb179]; conv => lhs; whnf)
                          obtain ⟨y181, h_y181, h⟩ := callK_inv h
                          rw [cl_eq hcl (L_spec_LessRecord x180 x176 h_y181)]
                          rotate_left
                          · show _ = _; kernel_rfl
                          · show _ = _; kernel_rfl
                          conv => lhs; whnf
                          try (rw [hb179]; conv => lhs; whnf)
                          try (rw [hb178]; conv => lhs; whnf)
                          try (rw [hb179]; conv => lhs; whnf)
                          try (rw [hb178]; conv => lhs; whnf)
                          cases hb182 : y181
                          · replace h := ifF h (booF hb182); conv => lhs; whnf
                            obtain rfl := Option.some.inj h; show _ = _; kernel_rfl

                          · replace h := ifT h hb182; conv => lhs; whnf
                            rw [wrap_nat i174 (by have := hn_i174; omega)]
                            exact hnx175 _ _ _ _ (fun kk => by kernel_rfl) h
                    · clear h
                      rintro next_nx175 ⟨⟩ r h
                      try dsimp only at h
                      have hd_i174 : (decide ((y158.length : Int) < (y158.length : Int))) = false := decide_eq_false (by omega)
                      conv => lhs; whnf
                      try rw [len_of (l := y158) (r := rRecord)]
                      try (first | rw [hd_i174] | (split; (first | (rename_i hx; exact absurd (hd_i174.symm.trans hx) (by decide)) | (rotate_left; rename_i hx; exact absurd (hd_i174.symm.trans hx) (by decide)))))
                      conv => lhs; whnf
                      obtain rfl := Option.some.inj h; show _ = _; kernel_rfl

              · replace h := ifT h (decT hb156); conv => lhs; whnf
                obtain ⟨x157, hq_x157, hx_x157', h⟩ := getK_inv h
                have hx_x157 := get_of (r := rRecord) hx_x157'
                try (rw [decide_eq_true hq_x157]; conv => lhs; whnf)
                rw [hx_x157]
                conv => lhs; whnf
                rw [hx_x157]
                conv => lhs; whnf
                obtain ⟨hg318, h⟩ := grd_inv h
                rw [app_eq hg318 ?h1 ?h2]
                case h1 => first | exact rfl | (simp only [List.length_map, List.length_cons, List.length_nil]; done) | (rw [List.length_map]; rfl)
                case h2 => exact rfl
                conv => lhs; whnf
                first | (rw [map_app_of (r := rRecord) (l := v154) (m := ([x157] : List Record)) ?hh]; case hh => exact rfl) | skip
                exact hnx155 _ _ _ _ (fun kk => by kernel_rfl) h
            · replace h := ifT h hb118; conv => lhs; whnf
              try (rw [hb118]; conv => lhs; whnf)
              try (rw [hb118]; conv => lhs; whnf)
              obtain ⟨y119, h_y119, h⟩ := callK_inv h
              rw [cl_eq hcl (L_impl_LessRecord y2 y6 h_y119)]
              rotate_left
              · show _ = _; kernel_rfl
              · show _ = _; kernel_rfl
              conv => lhs; whnf
              try (rw [hb118]; conv => lhs; whnf)
              try (rw [hb118]; conv => lhs; whnf)
              cases hb120 : y119
              · replace h := ifF h (booF hb120); conv => lhs; whnf
                obtain rfl := Option.some.inj h; show _ = _; kernel_rfl

              · replace h := ifT h hb120; conv => lhs; whnf
                obtain ⟨y121, h_y121, h⟩ := callK_inv h
                rw [cl_eq hcl (L_spec_A8Records a_0 h_y121)]
                rotate_left
                · show _ = _; kernel_rfl
                · show _ = _; kernel_rfl
                conv => lhs; whnf
                try rw [len_of (l := y121) (r := rRecord)]
                refine loop_iter hlp (fun ((v122, v123) : (Int × (List Record))) => ([.dead, .dead, .dead, .dead, .dead, .dead, .dead, .d (.arr (y121.map rRecord)), .sl 0, IN v122] ++ List.replicate 109 .dead : List V)) (fun ((v122, v123) : (Int × (List Record))) => ([some (.arr 46 5 (v123.map rRecord))] : Fo)) (fun (r : Bool) => ((BO r : V), ([] : Fo))) ?_ ((IntKind.i64.wrap ((y121.length : Int) - 1)), ([] : List Record)) _ (fun kk => by kernel_rfl) h
                clear h
                rintro next_nx124 nx124 hnx124 ⟨v122, v123⟩ r h
                try dsimp only at h
                conv => lhs; whnf
                cases hb125 : (decide (v122 ≥ 0))
                · replace h := ifF h (decF hb125); conv => lhs; whnf
                  obtain ⟨y127, h_y127, h⟩ := callK_inv h
                  rw [cl_eq hcl (L_impl_SortRecords y121 h_y127)]
                  rotate_left
                  · show _ = _; kernel_rfl
                  · show _ = _; kernel_rfl
                  conv => lhs; whnf
                  obtain ⟨y128, h_y128, h⟩ := callK_inv h
                  rw [cl_eq hcl (L_impl_SortRecords v123 h_y128)]
                  rotate_left
                  · show _ = _; kernel_rfl
                  · show _ = _; kernel_rfl
                  conv => lhs; whnf
                  obtain ⟨y129, h_y129, h⟩ := callK_inv h
                  rw [cl_eq hcl (L_laws_a8Same y127 y128 h_y129)]
                  rotate_left
                  · show _ = _; kernel_rfl
                  · show _ = _; kernel_rfl
                  conv => lhs; whnf
                  cases hb130 : y129
                  · replace h := ifF h (booF hb130); conv => lhs; whnf
                    try (rw [hb130]; conv => lhs; whnf)
                    try (rw [hb130]; conv => lhs; whnf)
                    try (rw [hb130]; conv => lhs; whnf)
                    try (rw [hb130]; conv => lhs; whnf)
                    try (rw [hb130]; conv => lhs; whnf)
                    obtain rfl := Option.some.inj h; show _ = _; kernel_rfl

                  · replace h := ifT h hb130; conv => lhs; whnf
                    try (rw [hb130]; conv => lhs; whnf)
                    try (rw [hb130]; conv => lhs; whnf)
                    obtain ⟨y131, h_y131, h⟩ := callK_inv h
                    rw [cl_eq hcl (L_impl_SortRecords y127 h_y131)]
                    rotate_left
                    · show _ = _; kernel_rfl
                    · show _ = _; kernel_rfl
                    conv => lhs; whnf
                    try (rw [hb130]; conv => lhs; whnf)
                    obtain ⟨y132, h_y132, h⟩ := callK_inv h
                    rw [cl_eq hcl (L_laws_a8Same y127 y131 h_y132)]
                    rotate_left
                    · show _ = _; kernel_rfl
                    · show _ = _; kernel_rfl
                    conv => lhs; whnf
                    try (rw [hb130]; conv => lhs; whnf)
                    try (rw [hb130]; conv => lhs; whnf)
                    cases hb133 : y132
                    · replace h := ifF h (booF hb133); conv => lhs; whnf
                      obtain rfl := Option.some.inj h; show _ = _; kernel_rfl

                    · replace h := ifT h hb133; conv => lhs; whnf
                      obtain ⟨hl_i143, h⟩ := grd_inv h
                      refine loop_for hlp (l := y127) hl_i143 (fun (i143 : Nat) (_ : Unit) => ([.dead, .dead, .dead, .dead, .dead, .dead, .dead, .dead, .dead, .dead, .d (.arr (y127.map rRecord)), IN (i143 : Int)] ++ List.replicate 107 .dead : List V)) (fun (i143 : Nat) (_ : Unit) => ([] : Fo)) (fun (r : Bool) => ((BO r : V), ([] : Fo))) ?_ ?_ () _ (fun kk => by kernel_rfl) h
                      · clear h
                        rintro next_nx144 nx144 i143 hi_i143 hnx144 ⟨⟩ r h
                        try dsimp only at h
                        have hn_i143 : i143 < 4611686018427387904 := by omega
                        have hx_x145 := get_map rRecord y127 i143 hi_i143
                        generalize y127[i143] = x145 at h hx_x145
                        have hd_i143 : (decide ((i143 : Int) < (y127.length : Int))) = true := decide_eq_true (by omega)
                        conv => lhs; whnf
                        try rw [len_of (l := y127) (r := rRecord)]
                        try (first | rw [hd_i143] | (split; (first | (rename_i hx; exact absurd (hd_i143.symm.trans hx) (by decide)) | (rotate_left; rename_i hx; exact absurd (hd_i143.symm.trans hx) (by decide)))))
                        conv => lhs; whnf
                        try (rw [decide_eq_true hq_x145]; conv => lhs; whnf)
                        rw [hx_x145]
                        conv => lhs; whnf
                        rw [hx_x145]
                        conv => lhs; whnf
                        obtain ⟨y146, h_y146, h⟩ := callK_inv h
                        rw [cl_eq hcl (L_spec_ValidRecord x145 h_y146)]
                        rotate_left
                        · show _ = _; kernel_rfl
                        · show _ = _; kernel_rfl
                        conv => lhs; whnf
                        cases hb147 : y146
                        · replace h := ifF h (booF hb147); conv => lhs; whnf
                          try (rw [hb147]; conv => lhs; whnf)
                          try (rw [hb147]; conv => lhs; whnf)
                          try (rw [hb147]; conv => lhs; whnf)
                          try (rw [hb147]; conv => lhs; whnf)
                          obtain rfl := Option.some.inj h; show _ = _; kernel_rfl

                        · replace h := ifT h hb147; conv => lhs; whnf
                          try (rw [hb147]; conv => lhs; whnf)
                          try (rw [hb147]; conv => lhs; whnf)
                          cases hb148 : (decide ((i143 : Int) > 0))
                          · replace h := ifF h (decF hb148); conv => lhs; whnf
                            try (rw [hb148]; conv => lhs; whnf)
                            try (rw [hb148]; conv => lhs; whnf)
                            try (rw [hb148]; conv => lhs; whnf)
                            try (rw [hb148]; conv => lhs; whnf)
                            try (rw [hb148]; conv => lhs; whnf)
                            try (rw [hb148]; conv => lhs; whnf)
                            try (rw [hb148]; conv => lhs; whnf)
                            try (rw [hb148]; conv => lhs; whnf)
                            try (rw [hb148]; conv => lhs; whnf)
                            try (rw [hb148]; conv => lhs; whnf)
                            try (rw [hb147]; conv => lhs; whnf)
                            try (rw [hb148]; conv => lhs; whnf)
                            try (rw [hb147]; conv => lhs; whnf)
                            rw [wrap_nat i143 (by have := hn_i143; omega)]
                            exact hnx144 _ _ _ _ (fun kk => by kernel_rfl) h
                          · replace h := ifT h (decT hb148); conv => lhs; whnf
                            try (rw [hb148]; conv => lhs; whnf)
                            try (rw [hb148]; conv => lhs; whnf)
                            try (rw [hb148]; conv => lhs; whnf)
                            obtain ⟨x149, hq_x149, hx_x149', h⟩ := getK_inv h
                            have hx_x149 := get_of (r := rRecord) hx_x149'
                            try (rw [decide_eq_true hq_x149]; conv => lhs; whnf)
                            rw [hx_x149]
                            conv => lhs; whnf
                            try (rw [hb148]; conv => lhs; whnf)
                            rw [hx_x149]
                            conv => lhs; whnf
                            try (rw [hb148]; conv => lhs; whnf)
                            try (rw [hb148]; conv => lhs; whnf)
                            try (rw [hb148]; conv => lhs; whnf)
                            try (rw [decide_eq_true hq_x145]; conv => lhs; whnf)
                            rw [hx_x145]
                            conv => lhs; whnf
                            try (rw [hb148]; conv => lhs; whnf)
                            rw [hx_x145]
                            conv => lhs; whnf
                            try (rw [hb148]; conv => lhs; whnf)
                            obtain ⟨y150, h_y150, h⟩ := callK_inv h
                            rw [cl_eq hcl (L_spec_LessRecord x149 x145 h_y150)]
                            rotate_left
                            · show _ = _; kernel_rfl
                            · show _ = _; kernel_rfl
                            conv => lhs; whnf
                            try (rw [hb148]; conv => lhs; whnf)
                            try (rw [hb147]; conv => lhs; whnf)
                            try (rw [hb148]; conv => lhs; whnf)
                            try (rw [hb147]; conv => lhs; whnf)
                            cases hb151 : y150
                            · replace h := ifF h (booF hb151); conv => lhs; whnf
                              obtain rfl := Option.some.inj h; show _ = _; kernel_rfl

                            · replace h := ifT h hb151; conv => lhs; whnf
                              rw [wrap_nat i143 (by have := hn_i143; omega)]
                              exact hnx144 _ _ _ _ (fun kk => by kernel_rfl) h
                      · clear h
                        rintro next_nx144 ⟨⟩ r h
                        try dsimp only at h
                        have hd_i143 : (decide ((y127.length : Int) < (y127.length : Int))) = false := decide_eq_false (by omega)
                        conv => lhs; whnf
                        try rw [len_of (l := y127) (r := rRecord)]
                        try (first | rw [hd_i143] | (split; (first | (rename_i hx; exact absurd (hd_i143.symm.trans hx) (by decide)) | (rotate_left; rename_i hx; exact absurd (hd_i143.symm.trans hx) (by decide)))))
                        conv => lhs; whnf
                        obtain rfl := Option.some.inj h; show _ = _; kernel_rfl

                · replace h := ifT h (decT hb125); conv => lhs; whnf
                  obtain ⟨x126, hq_x126, hx_x126', h⟩ := getK_inv h
                  have hx_x126 := get_of (r := rRecord) hx_x126'
                  try (rw [decide_eq_true hq_x126]; conv => lhs; whnf)
                  rw [hx_x126]
                  conv => lhs; whnf
                  rw [hx_x126]
                  conv => lhs; whnf
                  obtain ⟨hg319, h⟩ := grd_inv h
                  rw [app_eq hg319 ?h1 ?h2]
                  case h1 => first | exact rfl | (simp only [List.length_map, List.length_cons, List.length_nil]; done) | (rw [List.length_map]; rfl)
                  case h2 => exact rfl
                  conv => lhs; whnf
                  first | (rw [map_app_of (r := rRecord) (l := v123) (m := ([x126] : List Record)) ?hh]; case hh => exact rfl) | skip
                  exact hnx124 _ _ _ _ (fun kk => by kernel_rfl) h
    · replace h := ifT h hb8
      try rw [hb8] at h
      conv => lhs; whnf
      obtain ⟨y9, h_y9, h⟩ := callK_inv h
      rw [cl_eq hcl (L_impl_LessRecord y4 y2 h_y9)]
      rotate_left
      · show _ = _; kernel_rfl
      · show _ = _; kernel_rfl
      conv => lhs; whnf
      cases hb10 : y9
      · replace h := ifF h (booF hb10)
        try rw [hb10] at h
        conv => lhs; whnf
        cases hb12 : ((((IntKind.i64.wrap (0 + 1)) : Int) == 0) == ((y2.Key.toList == y4.Key.toList) && ((y2.Seq == y4.Seq) && ((y2.Kind == y4.Kind) && ((y2.Value.toList == y4.Value.toList) && ((y2.End.toList == y4.End.toList) && true))))))
        · replace h := ifF h (booF hb12); conv => lhs; whnf
          try (rw [hb12]; conv => lhs; whnf)
          try (rw [hb12]; conv => lhs; whnf)
          obtain rfl := Option.some.inj h; show _ = _; kernel_rfl

        · replace h := ifT h hb12; conv => lhs; whnf
          try (rw [hb12]; conv => lhs; whnf)
          try (rw [hb12]; conv => lhs; whnf)
          obtain ⟨y13, h_y13, h⟩ := callK_inv h
          rw [cl_eq hcl (L_impl_LessRecord y2 y4 h_y13)]
          rotate_left
          · show _ = _; kernel_rfl
          · show _ = _; kernel_rfl
          conv => lhs; whnf
          cases hb14 : y13
          · replace h := ifF h (booF hb14); conv => lhs; whnf
            try (rw [hb14]; conv => lhs; whnf)
            try (rw [hb14]; conv => lhs; whnf)
            try (rw [hb14]; conv => lhs; whnf)
            obtain ⟨y81, h_y81, h⟩ := callK_inv h
            rw [cl_eq hcl (L_spec_A8Records a_0 h_y81)]
            rotate_left
            · show _ = _; kernel_rfl
            · show _ = _; kernel_rfl
            conv => lhs; whnf
            try rw [len_of (l := y81) (r := rRecord)]
            refine loop_iter hlp (fun ((v82, v83) : (Int × (List Record))) => ([.dead, .dead, .dead, .dead, .dead, .dead, .dead, .d (.arr (y81.map rRecord)), .sl 0, IN v82] ++ List.replicate 109 .dead : List V)) (fun ((v82, v83) : (Int × (List Record))) => ([some (.arr 46 5 (v83.map rRecord))] : Fo)) (fun (r : Bool) => ((BO r : V), ([] : Fo))) ?_ ((IntKind.i64.wrap ((y81.length : Int) - 1)), ([] : List Record)) _ (fun kk => by kernel_rfl) h
            clear h
            rintro next_nx84 nx84 hnx84 ⟨v82, v83⟩ r h
            try dsimp only at h
            conv => lhs; whnf
            cases hb85 : (decide (v82 ≥ 0))
            · replace h := ifF h (decF hb85); conv => lhs; whnf
              obtain ⟨y87, h_y87, h⟩ := callK_inv h
              rw [cl_eq hcl (L_impl_SortRecords y81 h_y87)]
              rotate_left
              · show _ = _; kernel_rfl
              · show _ = _; kernel_rfl
              conv => lhs; whnf
              obtain ⟨y88, h_y88, h⟩ := callK_inv h
              rw [cl_eq hcl (L_impl_SortRecords v83 h_y88)]
              rotate_left
              · show _ = _; kernel_rfl
              · show _ = _; kernel_rfl
              conv => lhs; whnf
              obtain ⟨y89, h_y89, h⟩ := callK_inv h
              rw [cl_eq hcl (L_laws_a8Same y87 y88 h_y89)]
              rotate_left
              · show _ = _; kernel_rfl
              · show _ = _; kernel_rfl
              conv => lhs; whnf
              cases hb90 : y89
              · replace h := ifF h (booF hb90); conv => lhs; whnf
                try (rw [hb90]; conv => lhs; whnf)
                try (rw [hb90]; conv => lhs; whnf)
                try (rw [hb90]; conv => lhs; whnf)
                try (rw [hb90]; conv => lhs; whnf)
                try (rw [hb90]; conv => lhs; whnf)
                obtain rfl := Option.some.inj h; show _ = _; kernel_rfl

              · replace h := ifT h hb90; conv => lhs; whnf
                try (rw [hb90]; conv => lhs; whnf)
                try (rw [hb90]; conv => lhs; whnf)
                obtain ⟨y91, h_y91, h⟩ := callK_inv h
                rw [cl_eq hcl (L_impl_SortRecords y87 h_y91)]
                rotate_left
                · show _ = _; kernel_rfl
                · show _ = _; kernel_rfl
                conv => lhs; whnf
                try (rw [hb90]; conv => lhs; whnf)
                obtain ⟨y92, h_y92, h⟩ := callK_inv h
                rw [cl_eq hcl (L_laws_a8Same y87 y91 h_y92)]
                rotate_left
                · show _ = _; kernel_rfl
                · show _ = _; kernel_rfl
                conv => lhs; whnf
                try (rw [hb90]; conv => lhs; whnf)
                try (rw [hb90]; conv => lhs; whnf)
                cases hb93 : y92
                · replace h := ifF h (booF hb93); conv => lhs; whnf
                  obtain rfl := Option.some.inj h; show _ = _; kernel_rfl

                · replace h := ifT h hb93; conv => lhs; whnf
                  obtain ⟨hl_i103, h⟩ := grd_inv h
                  refine loop_for hlp (l := y87) hl_i103 (fun (i103 : Nat) (_ : Unit) => ([.dead, .dead, .dead, .dead, .dead, .dead, .dead, .dead, .dead, .dead, .d (.arr (y87.map rRecord)), IN (i103 : Int)] ++ List.replicate 107 .dead : List V)) (fun (i103 : Nat) (_ : Unit) => ([] : Fo)) (fun (r : Bool) => ((BO r : V), ([] : Fo))) ?_ ?_ () _ (fun kk => by kernel_rfl) h
                  · clear h
                    rintro next_nx104 nx104 i103 hi_i103 hnx104 ⟨⟩ r h
                    try dsimp only at h
                    have hn_i103 : i103 < 4611686018427387904 := by omega
                    have hx_x105 := get_map rRecord y87 i103 hi_i103
                    generalize y87[i103] = x105 at h hx_x105
                    have hd_i103 : (decide ((i103 : Int) < (y87.length : Int))) = true := decide_eq_true (by omega)
                    conv => lhs; whnf
                    try rw [len_of (l := y87) (r := rRecord)]
                    try (first | rw [hd_i103] | (split; (first | (rename_i hx; exact absurd (hd_i103.symm.trans hx) (by decide)) | (rotate_left; rename_i hx; exact absurd (hd_i103.symm.trans hx) (by decide)))))
                    conv => lhs; whnf
                    try (rw [decide_eq_true hq_x105]; conv => lhs; whnf)
                    rw [hx_x105]
                    conv => lhs; whnf
                    rw [hx_x105]
                    conv => lhs; whnf
                    obtain ⟨y106, h_y106, h⟩ := callK_inv h
                    rw [cl_eq hcl (L_spec_ValidRecord x105 h_y106)]
                    rotate_left
                    · show _ = _; kernel_rfl
                    · show _ = _; kernel_rfl
                    conv => lhs; whnf
                    cases hb107 : y106
                    · replace h := ifF h (booF hb107); conv => lhs; whnf
                      try (rw [hb107]; conv => lhs; whnf)
                      try (rw [hb107]; conv => lhs; whnf)
                      try (rw [hb107]; conv => lhs; whnf)
                      try (rw [hb107]; conv => lhs; whnf)
                      obtain rfl := Option.some.inj h; show _ = _; kernel_rfl

                    · replace h := ifT h hb107; conv => lhs; whnf
                      try (rw [hb107]; conv => lhs; whnf)
                      try (rw [hb107]; conv => lhs; whnf)
                      cases hb108 : (decide ((i103 : Int) > 0))
                      · replace h := ifF h (decF hb108); conv => lhs; whnf
                        try (rw [hb108]; conv => lhs; whnf)
                        try (rw [hb108]; conv => lhs; whnf)
                        try (rw [hb108]; conv => lhs; whnf)
                        try (rw [hb108]; conv => lhs; whnf)
                        try (rw [hb108]; conv => lhs; whnf)
                        try (rw [hb108]; conv => lhs; whnf)
                        try (rw [hb108]; conv => lhs; whnf)
                        try (rw [hb108]; conv => lhs; whnf)
                        try (rw [hb108]; conv => lhs; whnf)
                        try (rw [hb108]; conv => lhs; whnf)
                        try (rw [hb107]; conv => lhs; whnf)
                        try (rw [hb108]; conv => lhs; whnf)
                        try (rw [hb107]; conv => lhs; whnf)
                        rw [wrap_nat i103 (by have := hn_i103; omega)]
                        exact hnx104 _ _ _ _ (fun kk => by kernel_rfl) h
                      · replace h := ifT h (decT hb108); conv => lhs; whnf
                        try (rw [hb108]; conv => lhs; whnf)
                        try (rw [hb108]; conv => lhs; whnf)
                        try (rw [hb108]; conv => lhs; whnf)
                        obtain ⟨x109, hq_x109, hx_x109', h⟩ := getK_inv h
                        have hx_x109 := get_of (r := rRecord) hx_x109'
                        try (rw [decide_eq_true hq_x109]; conv => lhs; whnf)
                        rw [hx_x109]
                        conv => lhs; whnf
                        try (rw [hb108]; conv => lhs; whnf)
                        rw [hx_x109]
                        conv => lhs; whnf
                        try (rw [hb108]; conv => lhs; whnf)
                        try (rw [hb108]; conv => lhs; whnf)
                        try (rw [hb108]; conv => lhs; whnf)
                        try (rw [decide_eq_true hq_x105]; conv => lhs; whnf)
                        rw [hx_x105]
                        conv => lhs; whnf
                        try (rw [hb108]; conv => lhs; whnf)
                        rw [hx_x105]
                        conv => lhs; whnf
                        try (rw [hb108]; conv => lhs; whnf)
                        obtain ⟨y110, h_y110, h⟩ := callK_inv h
                        rw [cl_eq hcl (L_spec_LessRecord x109 x105 h_y110)]
                        rotate_left
                        · show _ = _; kernel_rfl
                        · show _ = _; kernel_rfl
                        conv => lhs; whnf
                        try (rw [hb108]; conv => lhs; whnf)
                        try (rw [hb107]; conv => lhs; whnf)
                        try (rw [hb108]; conv => lhs; whnf)
                        try (rw [hb107]; conv => lhs; whnf)
                        cases hb111 : y110
                        · replace h := ifF h (booF hb111); conv => lhs; whnf
                          obtain rfl := Option.some.inj h; show _ = _; kernel_rfl

                        · replace h := ifT h hb111; conv => lhs; whnf
                          rw [wrap_nat i103 (by have := hn_i103; omega)]
                          exact hnx104 _ _ _ _ (fun kk => by kernel_rfl) h
                  · clear h
                    rintro next_nx104 ⟨⟩ r h
                    try dsimp only at h
                    have hd_i103 : (decide ((y87.length : Int) < (y87.length : Int))) = false := decide_eq_false (by omega)
                    conv => lhs; whnf
                    try rw [len_of (l := y87) (r := rRecord)]
                    try (first | rw [hd_i103] | (split; (first | (rename_i hx; exact absurd (hd_i103.symm.trans hx) (by decide)) | (rotate_left; rename_i hx; exact absurd (hd_i103.symm.trans hx) (by decide)))))
                    conv => lhs; whnf
                    obtain rfl := Option.some.inj h; show _ = _; kernel_rfl

            · replace h := ifT h (decT hb85); conv => lhs; whnf
              obtain ⟨x86, hq_x86, hx_x86', h⟩ := getK_inv h
              have hx_x86 := get_of (r := rRecord) hx_x86'
              try (rw [decide_eq_true hq_x86]; conv => lhs; whnf)
              rw [hx_x86]
              conv => lhs; whnf
              rw [hx_x86]
              conv => lhs; whnf
              obtain ⟨hg320, h⟩ := grd_inv h
              rw [app_eq hg320 ?h1 ?h2]
              case h1 => first | exact rfl | (simp only [List.length_map, List.length_cons, List.length_nil]; done) | (rw [List.length_map]; rfl)
              case h2 => exact rfl
              conv => lhs; whnf
              first | (rw [map_app_of (r := rRecord) (l := v83) (m := ([x86] : List Record)) ?hh]; case hh => exact rfl) | skip
              exact hnx84 _ _ _ _ (fun kk => by kernel_rfl) h
          · replace h := ifT h hb14; conv => lhs; whnf
            try (rw [hb14]; conv => lhs; whnf)
            try (rw [hb14]; conv => lhs; whnf)
            obtain ⟨y15, h_y15, h⟩ := callK_inv h
            rw [cl_eq hcl (L_impl_LessRecord y4 y6 h_y15)]
            rotate_left
            · show _ = _; kernel_rfl
            · show _ = _; kernel_rfl
            conv => lhs; whnf
            try (rw [hb14]; conv => lhs; whnf)
            cases hb16 : y15
            · replace h := ifF h (booF hb16); conv => lhs; whnf
              try (rw [hb16]; conv => lhs; whnf)
              try (rw [hb16]; conv => lhs; whnf)
              try (rw [hb16]; conv => lhs; whnf)
              try (rw [hb16]; conv => lhs; whnf)
              obtain ⟨y50, h_y50, h⟩ := callK_inv h
              rw [cl_eq hcl (L_spec_A8Records a_0 h_y50)]
              rotate_left
              · show _ = _; kernel_rfl
              · show _ = _; kernel_rfl
              conv => lhs; whnf
              try rw [len_of (l := y50) (r := rRecord)]
              refine loop_iter hlp (fun ((v51, v52) : (Int × (List Record))) => ([.dead, .dead, .dead, .dead, .dead, .dead, .dead, .d (.arr (y50.map rRecord)), .sl 0, IN v51] ++ List.replicate 109 .dead : List V)) (fun ((v51, v52) : (Int × (List Record))) => ([some (.arr 46 5 (v52.map rRecord))] : Fo)) (fun (r : Bool) => ((BO r : V), ([] : Fo))) ?_ ((IntKind.i64.wrap ((y50.length : Int) - 1)), ([] : List Record)) _ (fun kk => by kernel_rfl) h
              clear h
              rintro next_nx53 nx53 hnx53 ⟨v51, v52⟩ r h
              try dsimp only at h
              conv => lhs; whnf
              cases hb54 : (decide (v51 ≥ 0))
              · replace h := ifF h (decF hb54); conv => lhs; whnf
                obtain ⟨y56, h_y56, h⟩ := callK_inv h
                rw [cl_eq hcl (L_impl_SortRecords y50 h_y56)]
                rotate_left
                · show _ = _; kernel_rfl
                · show _ = _; kernel_rfl
                conv => lhs; whnf
                obtain ⟨y57, h_y57, h⟩ := callK_inv h
                rw [cl_eq hcl (L_impl_SortRecords v52 h_y57)]
                rotate_left
                · show _ = _; kernel_rfl
                · show _ = _; kernel_rfl
                conv => lhs; whnf
                obtain ⟨y58, h_y58, h⟩ := callK_inv h
                rw [cl_eq hcl (L_laws_a8Same y56 y57 h_y58)]
                rotate_left
                · show _ = _; kernel_rfl
                · show _ = _; kernel_rfl
                conv => lhs; whnf
                cases hb59 : y58
                · replace h := ifF h (booF hb59); conv => lhs; whnf
                  try (rw [hb59]; conv => lhs; whnf)
                  try (rw [hb59]; conv => lhs; whnf)
                  try (rw [hb59]; conv => lhs; whnf)
                  try (rw [hb59]; conv => lhs; whnf)
                  try (rw [hb59]; conv => lhs; whnf)
                  obtain rfl := Option.some.inj h; show _ = _; kernel_rfl

                · replace h := ifT h hb59; conv => lhs; whnf
                  try (rw [hb59]; conv => lhs; whnf)
                  try (rw [hb59]; conv => lhs; whnf)
                  obtain ⟨y60, h_y60, h⟩ := callK_inv h
                  rw [cl_eq hcl (L_impl_SortRecords y56 h_y60)]
                  rotate_left
                  · show _ = _; kernel_rfl
                  · show _ = _; kernel_rfl
                  conv => lhs; whnf
                  try (rw [hb59]; conv => lhs; whnf)
                  obtain ⟨y61, h_y61, h⟩ := callK_inv h
                  rw [cl_eq hcl (L_laws_a8Same y56 y60 h_y61)]
                  rotate_left
                  · show _ = _; kernel_rfl
                  · show _ = _; kernel_rfl
                  conv => lhs; whnf
                  try (rw [hb59]; conv => lhs; whnf)
                  try (rw [hb59]; conv => lhs; whnf)
                  cases hb62 : y61
                  · replace h := ifF h (booF hb62); conv => lhs; whnf
                    obtain rfl := Option.some.inj h; show _ = _; kernel_rfl

                  · replace h := ifT h hb62; conv => lhs; whnf
                    obtain ⟨hl_i72, h⟩ := grd_inv h
                    refine loop_for hlp (l := y56) hl_i72 (fun (i72 : Nat) (_ : Unit) => ([.dead, .dead, .dead, .dead, .dead, .dead, .dead, .dead, .dead, .dead, .d (.arr (y56.map rRecord)), IN (i72 : Int)] ++ List.replicate 107 .dead : List V)) (fun (i72 : Nat) (_ : Unit) => ([] : Fo)) (fun (r : Bool) => ((BO r : V), ([] : Fo))) ?_ ?_ () _ (fun kk => by kernel_rfl) h
                    · clear h
                      rintro next_nx73 nx73 i72 hi_i72 hnx73 ⟨⟩ r h
                      try dsimp only at h
                      have hn_i72 : i72 < 4611686018427387904 := by omega
                      have hx_x74 := get_map rRecord y56 i72 hi_i72
                      generalize y56[i72] = x74 at h hx_x74
                      have hd_i72 : (decide ((i72 : Int) < (y56.length : Int))) = true := decide_eq_true (by omega)
                      conv => lhs; whnf
                      try rw [len_of (l := y56) (r := rRecord)]
                      try (first | rw [hd_i72] | (split; (first | (rename_i hx; exact absurd (hd_i72.symm.trans hx) (by decide)) | (rotate_left; rename_i hx; exact absurd (hd_i72.symm.trans hx) (by decide)))))
                      conv => lhs; whnf
                      try (rw [decide_eq_true hq_x74]; conv => lhs; whnf)
                      rw [hx_x74]
                      conv => lhs; whnf
                      rw [hx_x74]
                      conv => lhs; whnf
                      obtain ⟨y75, h_y75, h⟩ := callK_inv h
                      rw [cl_eq hcl (L_spec_ValidRecord x74 h_y75)]
                      rotate_left
                      · show _ = _; kernel_rfl
                      · show _ = _; kernel_rfl
                      conv => lhs; whnf
                      cases hb76 : y75
                      · replace h := ifF h (booF hb76); conv => lhs; whnf
                        try (rw [hb76]; conv => lhs; whnf)
                        try (rw [hb76]; conv => lhs; whnf)
                        try (rw [hb76]; conv => lhs; whnf)
                        try (rw [hb76]; conv => lhs; whnf)
                        obtain rfl := Option.some.inj h; show _ = _; kernel_rfl

                      · replace h := ifT h hb76; conv => lhs; whnf
                        try (rw [hb76]; conv => lhs; whnf)
                        try (rw [hb76]; conv => lhs; whnf)
                        cases hb77 : (decide ((i72 : Int) > 0))
                        · replace h := ifF h (decF hb77); conv => lhs; whnf
                          try (rw [hb77]; conv => lhs; whnf)
                          try (rw [hb77]; conv => lhs; whnf)
                          try (rw [hb77]; conv => lhs; whnf)
                          try (rw [hb77]; conv => lhs; whnf)
                          try (rw [hb77]; conv => lhs; whnf)
                          try (rw [hb77]; conv => lhs; whnf)
                          try (rw [hb77]; conv => lhs; whnf)
                          try (rw [hb77]; conv => lhs; whnf)
                          try (rw [hb77]; conv => lhs; whnf)
                          try (rw [hb77]; conv => lhs; whnf)
                          try (rw [hb76]; conv => lhs; whnf)
                          try (rw [hb77]; conv => lhs; whnf)
                          try (rw [hb76]; conv => lhs; whnf)
                          rw [wrap_nat i72 (by have := hn_i72; omega)]
                          exact hnx73 _ _ _ _ (fun kk => by kernel_rfl) h
                        · replace h := ifT h (decT hb77); conv => lhs; whnf
                          try (rw [hb77]; conv => lhs; whnf)
                          try (rw [hb77]; conv => lhs; whnf)
                          try (rw [hb77]; conv => lhs; whnf)
                          obtain ⟨x78, hq_x78, hx_x78', h⟩ := getK_inv h
                          have hx_x78 := get_of (r := rRecord) hx_x78'
                          try (rw [decide_eq_true hq_x78]; conv => lhs; whnf)
                          rw [hx_x78]
                          conv => lhs; whnf
                          try (rw [hb77]; conv => lhs; whnf)
                          rw [hx_x78]
                          conv => lhs; whnf
                          try (rw [hb77]; conv => lhs; whnf)
                          try (rw [hb77]; conv => lhs; whnf)
                          try (rw [hb77]; conv => lhs; whnf)
                          try (rw [decide_eq_true hq_x74]; conv => lhs; whnf)
                          rw [hx_x74]
                          conv => lhs; whnf
                          try (rw [hb77]; conv => lhs; whnf)
                          rw [hx_x74]
                          conv => lhs; whnf
                          try (rw [hb77]; conv => lhs; whnf)
                          obtain ⟨y79, h_y79, h⟩ := callK_inv h
                          rw [cl_eq hcl (L_spec_LessRecord x78 x74 h_y79)]
                          rotate_left
                          · show _ = _; kernel_rfl
                          · show _ = _; kernel_rfl
                          conv => lhs; whnf
                          try (rw [hb77]; conv => lhs; whnf)
                          try (rw [hb76]; conv => lhs; whnf)
                          try (rw [hb77]; conv => lhs; whnf)
                          try (rw [hb76]; conv => lhs; whnf)
                          cases hb80 : y79
                          · replace h := ifF h (booF hb80); conv => lhs; whnf
                            obtain rfl := Option.some.inj h; show _ = _; kernel_rfl

                          · replace h := ifT h hb80; conv => lhs; whnf
                            rw [wrap_nat i72 (by have := hn_i72; omega)]
                            exact hnx73 _ _ _ _ (fun kk => by kernel_rfl) h
                    · clear h
                      rintro next_nx73 ⟨⟩ r h
                      try dsimp only at h
                      have hd_i72 : (decide ((y56.length : Int) < (y56.length : Int))) = false := decide_eq_false (by omega)
                      conv => lhs; whnf
                      try rw [len_of (l := y56) (r := rRecord)]
                      try (first | rw [hd_i72] | (split; (first | (rename_i hx; exact absurd (hd_i72.symm.trans hx) (by decide)) | (rotate_left; rename_i hx; exact absurd (hd_i72.symm.trans hx) (by decide)))))
                      conv => lhs; whnf
                      obtain rfl := Option.some.inj h; show _ = _; kernel_rfl

              · replace h := ifT h (decT hb54); conv => lhs; whnf
                obtain ⟨x55, hq_x55, hx_x55', h⟩ := getK_inv h
                have hx_x55 := get_of (r := rRecord) hx_x55'
                try (rw [decide_eq_true hq_x55]; conv => lhs; whnf)
                rw [hx_x55]
                conv => lhs; whnf
                rw [hx_x55]
                conv => lhs; whnf
                obtain ⟨hg321, h⟩ := grd_inv h
                rw [app_eq hg321 ?h1 ?h2]
                case h1 => first | exact rfl | (simp only [List.length_map, List.length_cons, List.length_nil]; done) | (rw [List.length_map]; rfl)
                case h2 => exact rfl
                conv => lhs; whnf
                first | (rw [map_app_of (r := rRecord) (l := v52) (m := ([x55] : List Record)) ?hh]; case hh => exact rfl) | skip
                exact hnx53 _ _ _ _ (fun kk => by kernel_rfl) h
            · replace h := ifT h hb16; conv => lhs; whnf
              try (rw [hb16]; conv => lhs; whnf)
              try (rw [hb16]; conv => lhs; whnf)
              obtain ⟨y17, h_y17, h⟩ := callK_inv h
              rw [cl_eq hcl (L_impl_LessRecord y2 y6 h_y17)]
              rotate_left
              · show _ = _; kernel_rfl
              · show _ = _; kernel_rfl
              conv => lhs; whnf
              try (rw [hb16]; conv => lhs; whnf)
              try (rw [hb16]; conv => lhs; whnf)
              cases hb18 : y17
              · replace h := ifF h (booF hb18); conv => lhs; whnf
                obtain rfl := Option.some.inj h; show _ = _; kernel_rfl

              · replace h := ifT h hb18; conv => lhs; whnf
                obtain ⟨y19, h_y19, h⟩ := callK_inv h
                rw [cl_eq hcl (L_spec_A8Records a_0 h_y19)]
                rotate_left
                · show _ = _; kernel_rfl
                · show _ = _; kernel_rfl
                conv => lhs; whnf
                try rw [len_of (l := y19) (r := rRecord)]
                refine loop_iter hlp (fun ((v20, v21) : (Int × (List Record))) => ([.dead, .dead, .dead, .dead, .dead, .dead, .dead, .d (.arr (y19.map rRecord)), .sl 0, IN v20] ++ List.replicate 109 .dead : List V)) (fun ((v20, v21) : (Int × (List Record))) => ([some (.arr 46 5 (v21.map rRecord))] : Fo)) (fun (r : Bool) => ((BO r : V), ([] : Fo))) ?_ ((IntKind.i64.wrap ((y19.length : Int) - 1)), ([] : List Record)) _ (fun kk => by kernel_rfl) h
                clear h
                rintro next_nx22 nx22 hnx22 ⟨v20, v21⟩ r h
                try dsimp only at h
                conv => lhs; whnf
                cases hb23 : (decide (v20 ≥ 0))
                · replace h := ifF h (decF hb23); conv => lhs; whnf
                  obtain ⟨y25, h_y25, h⟩ := callK_inv h
                  rw [cl_eq hcl (L_impl_SortRecords y19 h_y25)]
                  rotate_left
                  · show _ = _; kernel_rfl
                  · show _ = _; kernel_rfl
                  conv => lhs; whnf
                  obtain ⟨y26, h_y26, h⟩ := callK_inv h
                  rw [cl_eq hcl (L_impl_SortRecords v21 h_y26)]
                  rotate_left
                  · show _ = _; kernel_rfl
                  · show _ = _; kernel_rfl
                  conv => lhs; whnf
                  obtain ⟨y27, h_y27, h⟩ := callK_inv h
                  rw [cl_eq hcl (L_laws_a8Same y25 y26 h_y27)]
                  rotate_left
                  · show _ = _; kernel_rfl
                  · show _ = _; kernel_rfl
                  conv => lhs; whnf
                  cases hb28 : y27
                  · replace h := ifF h (booF hb28); conv => lhs; whnf
                    try (rw [hb28]; conv => lhs; whnf)
                    try (rw [hb28]; conv => lhs; whnf)
                    try (rw [hb28]; conv => lhs; whnf)
                    try (rw [hb28]; conv => lhs; whnf)
                    try (rw [hb28]; conv => lhs; whnf)
                    obtain rfl := Option.some.inj h; show _ = _; kernel_rfl

                  · replace h := ifT h hb28; conv => lhs; whnf
                    try (rw [hb28]; conv => lhs; whnf)
                    try (rw [hb28]; conv => lhs; whnf)
                    obtain ⟨y29, h_y29, h⟩ := callK_inv h
                    rw [cl_eq hcl (L_impl_SortRecords y25 h_y29)]
                    rotate_left
                    · show _ = _; kernel_rfl
                    · show _ = _; kernel_rfl
                    conv => lhs; whnf
                    try (rw [hb28]; conv => lhs; whnf)
                    obtain ⟨y30, h_y30, h⟩ := callK_inv h
                    rw [cl_eq hcl (L_laws_a8Same y25 y29 h_y30)]
                    rotate_left
                    · show _ = _; kernel_rfl
                    · show _ = _; kernel_rfl
                    conv => lhs; whnf
                    try (rw [hb28]; conv => lhs; whnf)
                    try (rw [hb28]; conv => lhs; whnf)
                    cases hb31 : y30
                    · replace h := ifF h (booF hb31); conv => lhs; whnf
                      obtain rfl := Option.some.inj h; show _ = _; kernel_rfl

                    · replace h := ifT h hb31; conv => lhs; whnf
                      obtain ⟨hl_i41, h⟩ := grd_inv h
                      refine loop_for hlp (l := y25) hl_i41 (fun (i41 : Nat) (_ : Unit) => ([.dead, .dead, .dead, .dead, .dead, .dead, .dead, .dead, .dead, .dead, .d (.arr (y25.map rRecord)), IN (i41 : Int)] ++ List.replicate 107 .dead : List V)) (fun (i41 : Nat) (_ : Unit) => ([] : Fo)) (fun (r : Bool) => ((BO r : V), ([] : Fo))) ?_ ?_ () _ (fun kk => by kernel_rfl) h
                      · clear h
                        rintro next_nx42 nx42 i41 hi_i41 hnx42 ⟨⟩ r h
                        try dsimp only at h
                        have hn_i41 : i41 < 4611686018427387904 := by omega
                        have hx_x43 := get_map rRecord y25 i41 hi_i41
                        generalize y25[i41] = x43 at h hx_x43
                        have hd_i41 : (decide ((i41 : Int) < (y25.length : Int))) = true := decide_eq_true (by omega)
                        conv => lhs; whnf
                        try rw [len_of (l := y25) (r := rRecord)]
                        try (first | rw [hd_i41] | (split; (first | (rename_i hx; exact absurd (hd_i41.symm.trans hx) (by decide)) | (rotate_left; rename_i hx; exact absurd (hd_i41.symm.trans hx) (by decide)))))
                        conv => lhs; whnf
                        try (rw [decide_eq_true hq_x43]; conv => lhs; whnf)
                        rw [hx_x43]
                        conv => lhs; whnf
                        rw [hx_x43]
                        conv => lhs; whnf
                        obtain ⟨y44, h_y44, h⟩ := callK_inv h
                        rw [cl_eq hcl (L_spec_ValidRecord x43 h_y44)]
                        rotate_left
                        · show _ = _; kernel_rfl
                        · show _ = _; kernel_rfl
                        conv => lhs; whnf
                        cases hb45 : y44
                        · replace h := ifF h (booF hb45); conv => lhs; whnf
                          try (rw [hb45]; conv => lhs; whnf)
                          try (rw [hb45]; conv => lhs; whnf)
                          try (rw [hb45]; conv => lhs; whnf)
                          try (rw [hb45]; conv => lhs; whnf)
                          obtain rfl := Option.some.inj h; show _ = _; kernel_rfl

                        · replace h := ifT h hb45; conv => lhs; whnf
                          try (rw [hb45]; conv => lhs; whnf)
                          try (rw [hb45]; conv => lhs; whnf)
                          cases hb46 : (decide ((i41 : Int) > 0))
                          · replace h := ifF h (decF hb46); conv => lhs; whnf
                            try (rw [hb46]; conv => lhs; whnf)
                            try (rw [hb46]; conv => lhs; whnf)
                            try (rw [hb46]; conv => lhs; whnf)
                            try (rw [hb46]; conv => lhs; whnf)
                            try (rw [hb46]; conv => lhs; whnf)
                            try (rw [hb46]; conv => lhs; whnf)
                            try (rw [hb46]; conv => lhs; whnf)
                            try (rw [hb46]; conv => lhs; whnf)
                            try (rw [hb46]; conv => lhs; whnf)
                            try (rw [hb46]; conv => lhs; whnf)
                            try (rw [hb45]; conv => lhs; whnf)
                            try (rw [hb46]; conv => lhs; whnf)
                            try (rw [hb45]; conv => lhs; whnf)
                            rw [wrap_nat i41 (by have := hn_i41; omega)]
                            exact hnx42 _ _ _ _ (fun kk => by kernel_rfl) h
                          · replace h := ifT h (decT hb46); conv => lhs; whnf
                            try (rw [hb46]; conv => lhs; whnf)
                            try (rw [hb46]; conv => lhs; whnf)
                            try (rw [hb46]; conv => lhs; whnf)
                            obtain ⟨x47, hq_x47, hx_x47', h⟩ := getK_inv h
                            have hx_x47 := get_of (r := rRecord) hx_x47'
                            try (rw [decide_eq_true hq_x47]; conv => lhs; whnf)
                            rw [hx_x47]
                            conv => lhs; whnf
                            try (rw [hb46]; conv => lhs; whnf)
                            rw [hx_x47]
                            conv => lhs; whnf
                            try (rw [hb46]; conv => lhs; whnf)
                            try (rw [hb46]; conv => lhs; whnf)
                            try (rw [hb46]; conv => lhs; whnf)
                            try (rw [decide_eq_true hq_x43]; conv => lhs; whnf)
                            rw [hx_x43]
                            conv => lhs; whnf
                            try (rw [hb46]; conv => lhs; whnf)
                            rw [hx_x43]
                            conv => lhs; whnf
                            try (rw [hb46]; conv => lhs; whnf)
                            obtain ⟨y48, h_y48, h⟩ := callK_inv h
                            rw [cl_eq hcl (L_spec_LessRecord x47 x43 h_y48)]
                            rotate_left
                            · show _ = _; kernel_rfl
                            · show _ = _; kernel_rfl
                            conv => lhs; whnf
                            try (rw [hb46]; conv => lhs; whnf)
                            try (rw [hb45]; conv => lhs; whnf)
                            try (rw [hb46]; conv => lhs; whnf)
                            try (rw [hb45]; conv => lhs; whnf)
                            cases hb49 : y48
                            · replace h := ifF h (booF hb49); conv => lhs; whnf
                              obtain rfl := Option.some.inj h; show _ = _; kernel_rfl

                            · replace h := ifT h hb49; conv => lhs; whnf
                              rw [wrap_nat i41 (by have := hn_i41; omega)]
                              exact hnx42 _ _ _ _ (fun kk => by kernel_rfl) h
                      · clear h
                        rintro next_nx42 ⟨⟩ r h
                        try dsimp only at h
                        have hd_i41 : (decide ((y25.length : Int) < (y25.length : Int))) = false := decide_eq_false (by omega)
                        conv => lhs; whnf
                        try rw [len_of (l := y25) (r := rRecord)]
                        try (first | rw [hd_i41] | (split; (first | (rename_i hx; exact absurd (hd_i41.symm.trans hx) (by decide)) | (rotate_left; rename_i hx; exact absurd (hd_i41.symm.trans hx) (by decide)))))
                        conv => lhs; whnf
                        obtain rfl := Option.some.inj h; show _ = _; kernel_rfl

                · replace h := ifT h (decT hb23); conv => lhs; whnf
                  obtain ⟨x24, hq_x24, hx_x24', h⟩ := getK_inv h
                  have hx_x24 := get_of (r := rRecord) hx_x24'
                  try (rw [decide_eq_true hq_x24]; conv => lhs; whnf)
                  rw [hx_x24]
                  conv => lhs; whnf
                  rw [hx_x24]
                  conv => lhs; whnf
                  obtain ⟨hg322, h⟩ := grd_inv h
                  rw [app_eq hg322 ?h1 ?h2]
                  case h1 => first | exact rfl | (simp only [List.length_map, List.length_cons, List.length_nil]; done) | (rw [List.length_map]; rfl)
                  case h2 => exact rfl
                  conv => lhs; whnf
                  first | (rw [map_app_of (r := rRecord) (l := v21) (m := ([x24] : List Record)) ?hh]; case hh => exact rfl) | skip
                  exact hnx22 _ _ _ _ (fun kk => by kernel_rfl) h
      · replace h := ifT h hb10; conv => lhs; whnf
        cases hb11 : ((((IntKind.i64.wrap ((IntKind.i64.wrap (0 + 1)) + 1)) : Int) == 0) == ((y2.Key.toList == y4.Key.toList) && ((y2.Seq == y4.Seq) && ((y2.Kind == y4.Kind) && ((y2.Value.toList == y4.Value.toList) && ((y2.End.toList == y4.End.toList) && true))))))
        · replace h := ifF h (booF hb11); conv => lhs; whnf
          try (rw [hb11]; conv => lhs; whnf)
          try (rw [hb11]; conv => lhs; whnf)
          obtain rfl := Option.some.inj h; show _ = _; kernel_rfl

        · replace h := ifT h hb11; conv => lhs; whnf
          try (rw [hb11]; conv => lhs; whnf)
          try (rw [hb11]; conv => lhs; whnf)
          obtain rfl := Option.some.inj h; show _ = _; kernel_rfl

  · replace h := ifT h (decT hb1); conv => lhs; whnf
    obtain rfl := Option.some.inj h; show _ = _; kernel_rfl

/-! ### Strings in order -/
theorem bl_irr : ∀ x : List UInt8, Op.bytesLess x x = false
  | [] => rfl
  | a :: x => by simp [Op.bytesLess, bl_irr x, UInt8.lt_irrefl]
theorem bl_tr : ∀ {x y z : List UInt8}, Op.bytesLess x y = true → Op.bytesLess y z = true → Op.bytesLess x z = true
  | _, [], _, h, _ => by
    rename_i x _
    cases x <;> simp [Op.bytesLess] at h
  | _, b :: y, [], _, h => by simp [Op.bytesLess] at h
  | [], b :: y, c :: z, _, _ => rfl
  | a :: x, b :: y, c :: z, h1, h2 => by
    simp only [Op.bytesLess, Bool.or_eq_true, Bool.and_eq_true, decide_eq_true_eq, beq_iff_eq] at h1 h2 ⊢
    rcases h1 with h1 | ⟨rfl, h1⟩
    · rcases h2 with h2 | ⟨rfl, h2⟩
      · exact .inl (UInt8.lt_trans h1 h2)
      · exact .inl h1
    · rcases h2 with h2 | ⟨rfl, h2⟩
      · exact .inl h2
      · exact .inr ⟨rfl, bl_tr h1 h2⟩
theorem bl_tri : ∀ {x y : List UInt8}, Op.bytesLess x y = false → Op.bytesLess y x = false → x = y
  | [], [], _, _ => rfl
  | [], _ :: _, h, _ => by simp [Op.bytesLess] at h
  | _ :: _, [], _, h => by simp [Op.bytesLess] at h
  | a :: x, b :: y, h1, h2 => by
    simp only [Op.bytesLess, Bool.or_eq_false_iff, decide_eq_false_iff_not, Bool.and_eq_false_iff, beq_eq_false_iff_ne, ne_eq] at h1 h2
    have he : a = b := by
      rcases UInt8.lt_or_eq_of_le (UInt8.not_lt.mp h2.1) with h | h
      · exact absurd h h1.1
      · exact h
    subst he
    rcases h1.2 with h | h
    · exact absurd rfl h
    · rcases h2.2 with h' | h'
      · exact absurd rfl h'
      · rw [bl_tri h h']
def kl (a b : ByteArray) : Prop := Op.bytesLess a.toList b.toList = true
theorem kl_irr (a : ByteArray) : ¬ kl a a := by unfold kl; rw [bl_irr]; simp
theorem kl_tr (a b c : ByteArray) (h1 : kl a b) (h2 : kl b c) : kl a c := bl_tr h1 h2
theorem kl_tri (a b : ByteArray) (h1 : ¬ kl a b) (h2 : ¬ kl b a) : a = b := by
  unfold kl at h1 h2
  have := bl_tri (by simpa using h1) (by simpa using h2)
  rw [toList_data, toList_data] at this
  exact bytes_ext this
theorem kl_b (a b : ByteArray) : (Op.bytesLess a.toList b.toList = true) = kl a b := rfl
theorem kl_as {a b : ByteArray} (h : kl a b) : ¬ kl b a := fun h2 => kl_irr _ (kl_tr _ _ _ h h2)
theorem kl_ne {a b : ByteArray} (h : kl a b) : a ≠ b := fun e => kl_irr a (by rw [← e] at h; exact h)
theorem kl_empty (a : ByteArray) : ¬ kl a ⟨#[]⟩ := by
  unfold kl
  rw [show (⟨#[]⟩ : ByteArray).toList = [] from by rw [toList_data]]
  cases a.toList <;> simp [Op.bytesLess]
theorem kl_pos {a : ByteArray} (h : a ≠ ⟨#[]⟩) : kl ⟨#[]⟩ a := Classical.byContradiction fun hn => h (kl_tri _ _ (kl_empty a) hn)
/-! ### Orders one behind the other -/
def Lx {α κ : Type} (f : α → κ) (r : κ → κ → Prop) (S : α → α → Prop) (a b : α) : Prop := r (f a) (f b) ∨ (f a = f b ∧ S a b)
theorem Lx.tr {α κ : Type} {f : α → κ} {r : κ → κ → Prop} {S : α → α → Prop} (hr : ∀ x y z, r x y → r y z → r x z) (hS : ∀ a b c, S a b → S b c → S a c) (a b c : α) (h1 : Lx f r S a b) (h2 : Lx f r S b c) : Lx f r S a c := by
  rcases h1 with h1 | ⟨e1, h1⟩ <;> rcases h2 with h2 | ⟨e2, h2⟩
  · exact .inl (hr _ _ _ h1 h2)
  · exact .inl (e2 ▸ h1)
  · exact .inl (e1 ▸ h2)
  · exact .inr ⟨e1.trans e2, hS _ _ _ h1 h2⟩
theorem Lx.irr {α κ : Type} {f : α → κ} {r : κ → κ → Prop} {S : α → α → Prop} (hr : ∀ x, ¬ r x x) (hS : ∀ a, ¬ S a a) (a : α) : ¬ Lx f r S a a := by
  rintro (h | ⟨_, h⟩)
  · exact hr _ h
  · exact hS _ h
theorem Lx.tri {α κ : Type} {f : α → κ} {r : κ → κ → Prop} {S : α → α → Prop} (hr : ∀ x y, ¬ r x y → ¬ r y x → x = y) {a b : α} (h1 : ¬ Lx f r S a b) (h2 : ¬ Lx f r S b a) : f a = f b ∧ ¬ S a b ∧ ¬ S b a := by
  have e := hr (f a) (f b) (fun h => h1 (.inl h)) (fun h => h2 (.inl h))
  exact ⟨e, fun h => h1 (.inr ⟨e, h⟩), fun h => h2 (.inr ⟨e.symm, h⟩)⟩
/-- The internal order. -/
def RL : Record → Record → Prop := Lx (·.Key) kl (Lx (·.Seq) (· > ·) (Lx (·.Kind) (· < ·) (Lx (·.Value) kl fun a b => kl a.End b.End)))
theorem RL_tr (a b c : Record) : RL a b → RL b c → RL a c := by
  unfold RL
  refine Lx.tr kl_tr (Lx.tr (fun x y z h1 h2 => ?_) (Lx.tr (fun x y z h1 h2 => ?_) (Lx.tr kl_tr fun a b c h1 h2 => ?_))) a b c
  · exact Int.lt_trans h2 h1
  · exact Int.lt_trans h1 h2
  · exact kl_tr _ _ _ h1 h2
theorem RL_irr (a : Record) : ¬ RL a a := by
  unfold RL
  refine Lx.irr kl_irr (Lx.irr (fun x h => ?_) (Lx.irr (fun x h => ?_) (Lx.irr kl_irr fun a h => ?_))) a
  · exact Int.lt_irrefl _ h
  · exact Int.lt_irrefl _ h
  · exact kl_irr _ h
theorem RL_tri {a b : Record} (h1 : ¬ RL a b) (h2 : ¬ RL b a) : a = b := by
  obtain ⟨e1, h1, h2⟩ := Lx.tri kl_tri h1 h2
  obtain ⟨e2, h1, h2⟩ := Lx.tri (fun x y (h1 : ¬ x > y) (h2 : ¬ y > x) => by omega) h1 h2
  obtain ⟨e3, h1, h2⟩ := Lx.tri (fun x y (h1 : ¬ x < y) (h2 : ¬ y < x) => by omega) h1 h2
  obtain ⟨e4, h1, h2⟩ := Lx.tri kl_tri h1 h2
  have e5 := kl_tri _ _ h1 h2
  cases a; cases b
  simp_all
theorem RL_key {a b : Record} (h : RL a b) : kl a.Key b.Key ∨ a.Key = b.Key := h.imp id (·.1)
noncomputable def rl (a b : Record) : Bool := @decide (RL a b) (Classical.propDecidable _)
theorem rl_iff {a b : Record} : rl a b = true ↔ RL a b := by unfold rl; exact @decide_eq_true_iff _ (Classical.propDecidable _)
theorem rl_of {b : Bool} {x y : Record} (h : b = true ↔ RL x y) : b = rl x y := by rw [Bool.eq_iff_iff, h, rl_iff]
/-- Two rows in strict order with the same elements are one. -/
theorem sorted_ext {α : Type} {r : α → α → Prop} (tr : ∀ a b c, r a b → r b c → r a c) (irr : ∀ a, ¬ r a a) : ∀ {l m : List α}, l.Pairwise r → m.Pairwise r → (∀ x, x ∈ l ↔ x ∈ m) → l = m
  | [], [], _, _, _ => rfl
  | [], y :: m, _, _, h => by have := (h y).mpr (by simp); simp at this
  | x :: l, [], _, _, h => by have := (h x).mp (by simp); simp at this
  | x :: l, y :: m, h1, h2, h => by
    rw [List.pairwise_cons] at h1 h2
    have e : x = y := by
      rcases List.mem_cons.mp ((h x).mp (by simp)) with e | hx
      · exact e
      · rcases List.mem_cons.mp ((h y).mpr (by simp)) with e | hy
        · exact e.symm
        · exact absurd (tr _ _ _ (h1.1 y hy) (h2.1 x hx)) (irr x)
    subst e
    congr 1
    refine sorted_ext tr irr h1.2 h2.2 fun z => ?_
    constructor
    · intro hz
      rcases List.mem_cons.mp ((h z).mp (by simp [hz])) with e | h'
      · subst e; exact absurd (h1.1 z hz) (irr z)
      · exact h'
    · intro hz
      rcases List.mem_cons.mp ((h z).mpr (by simp [hz])) with e | h'
      · subst e; exact absurd (h2.1 z hz) (irr z)
      · exact h'
/-! ### A record put to its place -/
noncomputable def into : List Record → Record → List Record
  | [], r => [r]
  | x :: l, r => if rl x r = true then x :: into l r else @ite _ (x = r) (Classical.propDecidable _) (x :: l) (r :: x :: l)
theorem into_mem {x r : Record} : ∀ {l : List Record}, x ∈ into l r ↔ x ∈ l ∨ x = r
  | [] => by simp [into]
  | y :: l => by
    unfold into
    split
    · rw [List.mem_cons, into_mem (l := l), List.mem_cons, or_assoc]
    · split
      · rename_i e
        subst e
        simp
        intro h; subst h; exact .inl rfl
      · simp only [List.mem_cons]
        constructor
        · rintro (h | h | h)
          · exact .inr h
          · exact .inl (.inl h)
          · exact .inl (.inr h)
        · rintro ((h | h) | h)
          · exact .inr (.inl h)
          · exact .inr (.inr h)
          · exact .inl h
theorem into_sorted {r : Record} : ∀ {l : List Record}, l.Pairwise RL → (into l r).Pairwise RL
  | [], _ => by simp [into]
  | y :: l, h => by
    unfold into
    rw [List.pairwise_cons] at h
    split
    · rename_i c
      refine List.pairwise_cons.mpr ⟨fun x hx => ?_, into_sorted h.2⟩
      rcases into_mem.mp hx with hx | rfl
      · exact h.1 x hx
      · exact rl_iff.mp c
    · rename_i c
      split
      · exact List.pairwise_cons.mpr h
      · rename_i e
        have hry : RL r y := Classical.byContradiction fun hn => e (RL_tri (fun h => c (rl_iff.mpr h)) hn)
        refine List.pairwise_cons.mpr ⟨fun x hx => ?_, List.pairwise_cons.mpr h⟩
        rcases List.mem_cons.mp hx with rfl | hx
        · exact hry
        · exact RL_tr _ _ _ hry (h.1 x hx)
theorem into_len {r : Record} : ∀ {l : List Record}, r ∉ l → (into l r).length = l.length + 1
  | [], _ => rfl
  | y :: l, h => by
    unfold into
    split
    · simp only [List.length_cons, into_len (l := l) (r := r) (fun hm => h (List.mem_cons_of_mem _ hm))]
    · split
      · rename_i e; exact absurd (by simp [e]) h
      · rfl
theorem into_len_le (r : Record) : ∀ (l : List Record), (into l r).length ≤ l.length + 1
  | [] => by simp [into]
  | y :: l => by
    unfold into
    split
    · have := into_len_le r l; simp only [List.length_cons]; omega
    · split <;> simp
theorem into_at {r : Record} : ∀ {l : List Record} {i : Nat} (hi : i < l.length), (∀ j (hj : j < i), rl (l[j]'(by omega)) r = true) → rl l[i] r = false → into l r = @ite _ (l[i] = r) (Classical.propDecidable _) l (l.take i ++ r :: l.drop i)
  | x :: l, 0, hi, _, h => by
    unfold into
    simp only [List.getElem_cons_zero] at h ⊢
    rw [if_neg (by rw [h]; decide)]
    by_cases e : x = r
    · rw [if_pos e, if_pos e]
    · rw [if_neg e, if_neg e]; rfl
  | x :: l, i + 1, hi, h1, h => by
    have h0 := h1 0 (by omega)
    simp only [List.getElem_cons_zero] at h0
    unfold into
    rw [if_pos h0, into_at (l := l) (i := i) (by simpa using hi) (fun j hj => by have := h1 (j + 1) (by omega); simpa using this) (by simpa using h)]
    simp only [List.getElem_cons_succ]
    split <;> rfl
theorem into_end {r : Record} : ∀ {l : List Record}, (∀ x ∈ l, rl x r = true) → into l r = l ++ [r]
  | [], _ => rfl
  | x :: l, h => by
    unfold into
    rw [if_pos (h x (by simp)), into_end fun y hy => h y (by simp [hy])]; rfl
theorem fold_into : ∀ (l acc : List Record), acc.Pairwise RL → (∀ x ∈ acc, ∀ y ∈ l, x ≠ y) → l.Pairwise (· ≠ ·) → (l.foldl into acc).Pairwise RL ∧ (∀ x, x ∈ l.foldl into acc ↔ x ∈ acc ∨ x ∈ l) ∧ (l.foldl into acc).length = acc.length + l.length
  | [], acc, h, _, _ => ⟨h, by simp, by simp⟩
  | y :: l, acc, h, h1, h2 => by
    rw [List.pairwise_cons] at h2
    rw [List.foldl_cons]
    obtain ⟨g1, g2, g3⟩ := fold_into l (into acc y) (into_sorted h) (fun x hx z hz => by
      rcases into_mem.mp hx with hx | rfl
      · exact h1 x hx z (by simp [hz])
      · exact h2.1 z hz) h2.2
    refine ⟨g1, fun x => ?_, ?_⟩
    · rw [g2, into_mem, List.mem_cons, or_assoc]
    · rw [g3, into_len (fun hm => h1 y hm y (by simp) rfl), List.length_cons]; omega
theorem fold_into_mem : ∀ (l acc : List Record) (x : Record), x ∈ l.foldl into acc ↔ x ∈ acc ∨ x ∈ l
  | [], acc, x => by simp
  | y :: l, acc, x => by rw [List.foldl_cons, fold_into_mem, into_mem, List.mem_cons, or_assoc]
theorem fold_into_sorted : ∀ (l acc : List Record), acc.Pairwise RL → (l.foldl into acc).Pairwise RL
  | [], acc, h => h
  | y :: l, acc, h => by rw [List.foldl_cons]; exact fold_into_sorted l _ (into_sorted h)
/-! ### Valid records, runs -/
def okKey (k : ByteArray) : Bool := inR (k.size : Int) 1 8
def isE (s : ByteArray) : Bool := s.toList == (⟨#[]⟩ : ByteArray).toList
theorem isE_iff {s : ByteArray} : isE s = true ↔ s = ⟨#[]⟩ := by unfold isE; rw [str_eq]; exact decide_eq_true_iff
def okRec (r : Record) : Bool := okKey r.Key && (inR r.Seq 1 1000000 && (if r.Kind = 1 then decide ((r.Value.size : Int) ≤ 16) && isE r.End else if r.Kind = 2 then isE r.Value && isE r.End else if r.Kind = 3 then isE r.Value && (okKey r.End && Op.bytesLess r.Key.toList r.End.toList) else false))
theorem okKey_ne {k : ByteArray} (h : okKey k = true) : k ≠ ⟨#[]⟩ := by
  rintro rfl
  have := inR_iff.mp h
  simp [ByteArray.size] at this
theorem okRec_seq {r : Record} (h : okRec r = true) : 1 ≤ r.Seq ∧ r.Seq ≤ 1000000 := by
  unfold okRec at h
  simp only [Bool.and_eq_true] at h
  exact inR_iff.mp h.2.1
theorem okRec_key {r : Record} (h : okRec r = true) : okKey r.Key = true := by
  unfold okRec at h
  simp only [Bool.and_eq_true] at h
  exact h.1
structure Run (l : List Record) : Prop where
  ok : ∀ r ∈ l, okRec r = true
  srt : l.Pairwise RL
  inj : ∀ a ∈ l, ∀ b ∈ l, a.Seq = b.Seq → a = b
theorem Run.sub {l m : List Record} (h : Run l) (hs : m.Sublist l) : Run m := ⟨fun r hr => h.ok r (hs.subset hr), h.srt.sublist hs, fun a ha b hb => h.inj a (hs.subset ha) b (hs.subset hb)⟩
theorem Run.filter {l : List Record} (h : Run l) (p : Record → Bool) : Run (l.filter p) := h.sub List.filter_sublist
theorem Run.nil : Run [] := ⟨fun r hr => by simp at hr, .nil, fun a ha => by simp at ha⟩
theorem Run.ne {l : List Record} (h : Run l) : l.Pairwise (· ≠ ·) := h.srt.imp fun hr e => by subst e; exact RL_irr _ hr
theorem Run.into {l : List Record} (h : Run l) {r : Record} (hr : okRec r = true) (hn : ∀ x ∈ l, x.Seq ≠ r.Seq) : Run (into l r) := by
  refine ⟨fun x hx => ?_, into_sorted h.srt, fun a ha b hb e => ?_⟩
  · rcases into_mem.mp hx with hx | rfl
    · exact h.ok x hx
    · exact hr
  · rcases into_mem.mp ha with a1 | a1 <;> rcases into_mem.mp hb with b1 | b1
    · exact h.inj a a1 b b1 e
    · exact absurd (by rw [e, b1]) (hn a a1)
    · exact absurd (by rw [← e, a1]) (hn b b1)
    · rw [a1, b1]
/-! ### What a record does to a key -/
def aff (r : Record) (k : ByteArray) : Bool := if r.Kind = 3 then (Op.bytesLess r.Key.toList k.toList || r.Key.toList == k.toList) && Op.bytesLess k.toList r.End.toList else r.Key.toList == k.toList
theorem aff_key {r : Record} (h : r.Kind ≠ 3) {k : ByteArray} (ha : aff r k = true) : r.Key = k := by
  unfold aff at ha
  rw [if_neg h, str_eq] at ha
  exact of_decide_eq_true ha

theorem less_cmp : ∀ (x y : List UInt8), Op.bytesLess x y = decide (Lib.compareBytes x y < 0)
  | _, [] => by
    rename_i x
    cases x <;> rfl
  | [], _ :: _ => rfl
  | a :: x, b :: y => by
    rw [Op.bytesLess, Lib.compareBytes, less_cmp x y]
    by_cases h1 : a < b
    · simp [h1]
    · by_cases h2 : b < a
      · have hne : a ≠ b := fun e => by subst e; exact h1 h2
        simp [h1, h2, hne]
      · have he : a = b := by
          have e1 : ¬ a.toNat < b.toNat := fun h => h1 (by rwa [UInt8.lt_iff_toNat_lt])
          have e2 : ¬ b.toNat < a.toNat := fun h => h2 (by rwa [UInt8.lt_iff_toNat_lt])
          exact UInt8.toNat_inj.mp (by omega)
        simp [h1, h2, he]
theorem cmp_zero : ∀ (x y : List UInt8), Lib.compareBytes x y = 0 ↔ x = y
  | [], [] => by simp [Lib.compareBytes]
  | [], _ :: _ => by simp [Lib.compareBytes]
  | _ :: _, [] => by simp [Lib.compareBytes]
  | a :: x, b :: y => by
    rw [Lib.compareBytes]
    by_cases h1 : a < b
    · have hne : a ≠ b := fun e => by subst e; rw [UInt8.lt_iff_toNat_lt] at h1; omega
      simp [h1, hne]
    · by_cases h2 : b < a
      · have hne : a ≠ b := fun e => by subst e; exact h1 h2
        simp [h1, h2, hne]
      · have he : a = b := by
          have e1 : ¬ a.toNat < b.toNat := fun h => h1 (by rwa [UInt8.lt_iff_toNat_lt])
          have e2 : ¬ b.toNat < a.toNat := fun h => h2 (by rwa [UInt8.lt_iff_toNat_lt])
          exact UInt8.toNat_inj.mp (by omega)
        simp [h1, h2, he, cmp_zero x y]
theorem cmpB_lt {a b : ByteArray} : cmpB a b < 0 ↔ kl a b := by
  unfold cmpB kl
  rw [toList_data, toList_data, less_cmp, decide_eq_true_iff]
theorem cmpB_eq {a b : ByteArray} : cmpB a b = 0 ↔ a = b := by
  unfold cmpB
  rw [cmp_zero]
  exact ⟨bytes_ext, fun h => by rw [h]⟩

/-! ### slices.Compact -/
/-- A list with what equals the one before it left out. -/
noncomputable def cptG {α : Type} : α → List α → List α
  | _, [] => []
  | last, x :: l => @ite _ (x = last) (Classical.propDecidable _) (cptG last l) (x :: cptG x l)
noncomputable def cpt {α : Type} : List α → List α
  | [] => []
  | x :: l => x :: cptG x l
theorem cptG_snoc {α : Type} (x : α) : ∀ (m : List α) (last : α), cptG last (m ++ [x]) = @ite _ (m.getLast?.getD last = x) (Classical.propDecidable _) (cptG last m) (cptG last m ++ [x])
  | [], last => by
    by_cases h : last = x
    · subst h; simp [cptG]
    · simp [cptG, h, Ne.symm h]
  | y :: m, last => by
    have e : (y :: m).getLast?.getD last = m.getLast?.getD y := by
      rw [List.getLast?_cons]; simp
    rw [e, List.cons_append, cptG, cptG, cptG_snoc x m last, cptG_snoc x m y]
    by_cases hy : y = last
    · subst hy
      simp
    · rw [if_neg hy, if_neg hy]
      by_cases h : m.getLast?.getD y = x
      · rw [if_pos h, if_pos h]
      · rw [if_neg h, if_neg h, List.cons_append]
theorem cpt_snoc {α : Type} (x : α) (m : List α) (hm : m ≠ []) : cpt (m ++ [x]) = @ite _ (m.getLast? = some x) (Classical.propDecidable _) (cpt m) (cpt m ++ [x]) := by
  cases m with
  | nil => exact absurd rfl hm
  | cons y m =>
    rw [List.cons_append, cpt, cpt, cptG_snoc]
    have e : ((y :: m).getLast? = some x) ↔ m.getLast?.getD y = x := by rw [List.getLast?_cons]; simp
    by_cases h : m.getLast?.getD y = x
    · rw [if_pos h, if_pos (e.mpr h)]
    · rw [if_neg h, if_neg (fun h2 => h (e.mp h2)), List.cons_append]
theorem cpt_take {α : Type} {l : List α} {k : Nat} (h1 : 1 ≤ k) (hk : k < l.length) : cpt (l.take (k + 1)) = @ite _ (l[k] = l[k - 1]'(by omega)) (Classical.propDecidable _) (cpt (l.take k)) (cpt (l.take k) ++ [l[k]]) := by
  have hne : l.take k ≠ [] := fun h => by have := congrArg List.length h; rw [List.length_take, List.length_nil] at this; omega
  rw [List.take_succ_eq_append_getElem hk, cpt_snoc _ _ hne]
  have e : ((l.take k).getLast? = some l[k]) ↔ l[k] = l[k - 1]'(by omega) := by
    rw [List.getLast?_take, if_neg (by omega), List.getElem?_eq_getElem (by omega)]
    simp [eq_comm]
  by_cases h : l[k] = l[k - 1]'(by omega)
  · rw [if_pos h, if_pos (e.mpr h)]
  · rw [if_neg h, if_neg (fun h2 => h (e.mp h2))]
theorem cptG_len {α : Type} : ∀ (l : List α) (last : α), (cptG last l).length ≤ l.length
  | [], _ => by simp [cptG]
  | x :: l, last => by
    unfold cptG
    split
    · have := cptG_len l last; simp only [List.length_cons]; omega
    · have := cptG_len l x; simp only [List.length_cons]; omega
theorem cpt_len {α : Type} : ∀ (l : List α), (cpt l).length ≤ l.length
  | [] => by simp [cpt]
  | x :: l => by have := cptG_len l x; simp only [cpt, List.length_cons]; omega
theorem cptG_mem {α : Type} {y : α} : ∀ {l : List α} {last : α}, y = last ∨ y ∈ cptG last l ↔ y = last ∨ y ∈ l
  | [], last => by simp [cptG]
  | x :: l, last => by
    unfold cptG
    by_cases h : x = last
    · subst h
      rw [if_pos rfl, cptG_mem (l := l)]; simp
    · rw [if_neg h, List.mem_cons, cptG_mem (l := l), List.mem_cons]
theorem cpt_mem {α : Type} {y : α} : ∀ {l : List α}, y ∈ cpt l ↔ y ∈ l
  | [] => by simp [cpt]
  | x :: l => by rw [cpt, List.mem_cons, cptG_mem, List.mem_cons]
/-- In a list that rises, or stays, nothing is there twice. -/
theorem cptG_sorted {α : Type} {r : α → α → Prop} (tr : ∀ a b c, r a b → r b c → r a c) : ∀ {l : List α} {last : α}, (last :: l).Pairwise (fun a b => a = b ∨ r a b) → (last :: cptG last l).Pairwise r
  | [], _, _ => by simp [cptG]
  | x :: l, last, h => by
    rw [List.pairwise_cons] at h
    unfold cptG
    by_cases e : x = last
    · subst e
      rw [if_pos rfl]
      exact cptG_sorted tr h.2
    · rw [if_neg e]
      have hx : r last x := (h.1 x (by simp)).resolve_left (Ne.symm e)
      have ih := cptG_sorted tr h.2
      refine List.pairwise_cons.mpr ⟨fun k hk => ?_, ih⟩
      rcases List.mem_cons.mp hk with rfl | hk
      · exact hx
      · exact tr _ _ _ hx ((List.pairwise_cons.mp ih).1 k hk)
theorem cpt_sorted {α : Type} {r : α → α → Prop} (tr : ∀ a b c, r a b → r b c → r a c) : ∀ {l : List α}, l.Pairwise (fun a b => a = b ∨ r a b) → (cpt l).Pairwise r
  | [], _ => by simp [cpt]
  | x :: l, h => cptG_sorted tr h
/-- slices.Compact as it is printed, for an equality eq; z is the element that fills the end. -/
noncomputable def cmpG {α : Type} (z : α) (eq : α → α → Bool) (a_0 : List α) : Option (List α) :=
  if (a_0.length : Int) < 2 then
    some a_0
  else
    iterK (fun (v2 : Int) (nx3 : Int → Option _) =>
      if v2 < (a_0.length : Int) then
        getK a_0 v2 fun x5 =>
        getK a_0 (IntKind.i64.wrap (v2 - 1)) fun x6 =>
        if (eq x5 x6) = true then
          grd (0 ≤ v2 ∧ v2 < (a_0.length : Int)) <|
          iterK (fun ((v8, v9, v10) : (Int × Int × (List α))) (nx11 : (Int × Int × (List α)) → Option _) =>
            if v9 < ((List.drop (Int.toNat v2) v10).length : Int) then
              grd (0 ≤ v9) <|
              getN v10 ((Int.toNat v2) + Int.toNat v9) fun x13 =>
              grd (0 ≤ (IntKind.i64.wrap (v9 - 1))) <|
              getN v10 ((Int.toNat v2) + Int.toNat (IntKind.i64.wrap (v9 - 1))) fun x14 =>
              if (eq x13 x14) = true then
                nx11 (v8, (IntKind.i64.wrap (v9 + 1)), v10)
              else
                grd (0 ≤ v9) <|
                getK v10 v8 fun x16 =>
                nx11 ((IntKind.i64.wrap (v8 + 1)), (IntKind.i64.wrap (v9 + 1)), (v10.set (Int.toNat v8) x13))
            else
              grd (0 ≤ v8 ∧ v8 < (v10.length : Int)) <|
              grd (0 ≤ v8 ∧ v8 ≤ ((v10.take (Int.toNat v8) ++ List.replicate (v10.length - (Int.toNat v8)) z).length : Int)) <|
              some ((v10.take (Int.toNat v8) ++ List.replicate (v10.length - (Int.toNat v8)) z).take (Int.toNat v8))) NN (v2, 1, a_0)
        else
          nx3 (IntKind.i64.wrap (v2 + 1))
      else
        some a_0) NN 1
theorem cmpG_ok {α : Type} (z : α) {eq : α → α → Bool} (heq : ∀ x y, eq x y = true ↔ x = y) (l : List α) (hl : l.length ≤ 1000000) : cmpG z eq l = some (cpt l) := by
  unfold cmpG
  by_cases h2 : (l.length : Int) < 2
  · rw [if_pos h2]
    match l, h2 with
    | [], _ => rfl
    | [x], _ => rfl
    | x :: y :: m, h => simp only [List.length_cons] at h; omega
  rw [if_neg h2]
  refine iterK_rule (fun d (s : Int) => ∃ k : Nat, s = (k : Int) ∧ 1 ≤ k ∧ k ≤ l.length ∧ d = l.length - k ∧ cpt (l.take k) = l.take k) ?_ (l.length - 1) 1 (by unfold NN; omega) ⟨1, rfl, by omega, by omega, rfl, by
    cases l with
    | nil => simp at h2
    | cons x m => simp [cpt, cptG]⟩
  rintro d v2 ⟨k, rfl, h1, hk, rfl, hc⟩ nx hnx
  by_cases hlt : k < l.length
  · rw [if_pos (by omega), getK_lt hlt, wrap_sm _ (by omega) (by omega), show (k : Int) - 1 = ((k - 1 : Nat) : Int) by omega, getK_lt (by omega)]
    have hnext := cpt_take h1 hlt
    by_cases he : l[k] = l[k - 1]'(by omega)
    · rw [if_pos ((heq _ _).mpr he), grd_pos (by omega)]
      rw [if_pos he] at hnext
      refine iterK_rule (fun d (s : Int × Int × List α) => ∃ w r : Nat, s.1 = w ∧ s.2.1 = r ∧ 1 ≤ r ∧ k + r ≤ l.length ∧ d = l.length - (k + r) ∧ w ≤ k + r - 1 ∧ s.2.2.length = l.length ∧ s.2.2.take w = cpt (l.take (k + r)) ∧ s.2.2.drop (k + r - 1) = l.drop (k + r - 1)) ?_ (l.length - (k + 1)) _ (by unfold NN; omega)
        ⟨k, 1, rfl, rfl, by omega, by omega, rfl, by omega, rfl, by dsimp only; rw [hnext, hc], rfl⟩
      rintro d ⟨v8, v9, v10⟩ ⟨w, r, e1, e2, e3, e4, e5, e6, e7, e8, e9⟩ nx hnx
      dsimp only at e1 e2 e7 e8 e9 hnx ⊢
      subst e1 e2
      rw [List.length_drop, Int.toNat_natCast, e7]
      have hwl : (cpt (l.take (k + r))).length = w := by rw [← e8, List.length_take]; omega
      by_cases hr : k + r < l.length
      · have hx : v10[k + r]'(by omega) = l[k + r] := by
          have a := congrArg (fun t => t[1]?) e9
          simp only [List.getElem?_drop] at a
          rw [show k + r - 1 + 1 = k + r by omega, List.getElem?_eq_getElem (by omega), List.getElem?_eq_getElem hr] at a
          exact Option.some.inj a
        have hp : v10[k + r - 1]'(by omega) = l[k + r - 1] := by
          have a := congrArg (fun t => t[0]?) e9
          simp only [List.getElem?_drop, Nat.add_zero] at a
          rw [List.getElem?_eq_getElem (by omega), List.getElem?_eq_getElem (by omega)] at a
          exact Option.some.inj a
        have hn := cpt_take (l := l) (k := k + r) (by omega) hr
        have hd : ∀ u : List α, u.length = l.length → u.drop (k + r - 1) = l.drop (k + r - 1) → u.drop (k + r) = l.drop (k + r) := fun u _ h => by
          have := congrArg (List.drop 1) h
          simpa [List.drop_drop, show k + r - 1 + 1 = k + r by omega] using this
        rw [if_pos (by omega), grd_pos (by omega), Int.toNat_natCast, getN_lt (by omega), wrap_sm _ (by omega) (by omega), grd_pos (by omega), show ((r : Int) - 1).toNat = r - 1 by omega, getN_lt (by omega), hx]
        simp only [show k + (r - 1) = k + r - 1 by omega, hp]
        by_cases hq : l[k + r] = l[k + r - 1]'(by omega)
        · rw [if_pos hq] at hn
          rw [if_pos ((heq _ _).mpr hq), wrap_sm _ (by omega) (by omega)]
          exact hnx (l.length - (k + (r + 1))) _ (by omega) ⟨w, r + 1, rfl, by dsimp only; omega, by omega, by omega, rfl, by omega, e7, by dsimp only; rw [← Nat.add_assoc, hn, e8], by dsimp only; exact hd _ e7 e9⟩
        · rw [if_neg hq] at hn
          rw [if_neg (fun h => hq ((heq _ _).mp h)), grd_pos (by omega), getK_lt (by omega), wrap_sm _ (by omega) (by omega), wrap_sm _ (by omega) (by omega), Int.toNat_natCast]
          refine hnx (l.length - (k + (r + 1))) _ (by omega) ⟨w + 1, r + 1, by dsimp only; omega, by dsimp only; omega, by omega, by omega, rfl, by omega, by simpa using e7, ?_, ?_⟩
          · dsimp only
            rw [← Nat.add_assoc, hn, ← e8, List.take_succ_eq_append_getElem (by simp; omega), List.take_set_of_le (by omega)]
            simp
          · dsimp only
            rw [show k + (r + 1) - 1 = k + r by omega, List.drop_set_of_lt (by omega)]
            exact hd _ e7 e9
      · rw [if_neg (by omega), Int.toNat_natCast, grd_pos (by omega), grd_pos (by simp; omega), List.take_append_of_le_length (by simp; omega), List.take_take, Nat.min_self, e8, List.take_of_length_le (by omega)]
    · rw [if_neg (fun h => he ((heq _ _).mp h)), wrap_sm _ (by omega) (by omega)]
      rw [if_neg he] at hnext
      exact hnx (l.length - (k + 1)) _ (by omega) ⟨k + 1, by omega, by omega, by omega, rfl, by rw [hnext, hc, List.take_succ_eq_append_getElem hlt]⟩
  · have : k = l.length := by omega
    subst this
    rw [if_neg (by omega)]
    rw [List.take_length] at hc
    rw [hc]

/-- slices.DeleteFunc, as it is printed for a condition f; z is the element that fills the end. -/
noncomputable def delF {α : Type} (z : α) (f : α → Option Bool) (a_0 : List α) : Option (List α) :=
  callK (grd (a_0.length < 4611686018427387904) <| forK a_0 (fun (i6 : Nat) x8 (_ : Unit) (nx7 : Unit → Option _) => callK (f x8) fun y9 => if y9 = true then some (i6 : Int) else nx7 ()) () (fun (_ : Unit) => some (-1))) fun y1 =>
  if y1 = (-1) then
    some a_0
  else
    iterK (fun ((v3, v4, v5) : (Int × Int × (List α))) (nx6 : (Int × Int × (List α)) → Option _) =>
      if v4 < (v5.length : Int) then
        getK v5 v4 fun x8 =>
        callK (f x8) fun y9 =>
        if y9 = true then
          nx6 (v3, (IntKind.i64.wrap (v4 + 1)), v5)
        else
          getK v5 v3 fun x11 =>
          nx6 ((IntKind.i64.wrap (v3 + 1)), (IntKind.i64.wrap (v4 + 1)), (v5.set (Int.toNat v3) x8))
      else
        grd (0 ≤ v3 ∧ v3 < (v5.length : Int)) <|
        grd (0 ≤ v3 ∧ v3 ≤ ((v5.take (Int.toNat v3) ++ List.replicate (v5.length - (Int.toNat v3)) z).length : Int)) <|
        some ((v5.take (Int.toNat v3) ++ List.replicate (v5.length - (Int.toNat v3)) z).take (Int.toNat v3))) NN (y1, (IntKind.i64.wrap (y1 + 1)), a_0)
theorem forGo_congr {α σ R : Type} {f g : Nat → α → σ → (σ → Option R) → Option R} {k : σ → Option R} : ∀ (l : List α) (i : Nat) (s : σ), (∀ x ∈ l, ∀ i s nx, f i x s nx = g i x s nx) → forGo f k i l s = forGo g k i l s
  | [], i, s, h => rfl
  | x :: l, i, s, h => by
    rw [forGo_cons, forGo_cons, h x (by simp), show forGo f k (i + 1) l = forGo g k (i + 1) l from funext fun s => forGo_congr l (i + 1) s fun y hy => h y (by simp [hy])]
theorem idx_mem {α : Type} {f : α → Option Bool} {p : α → Bool} (l : List α) (hp : ∀ x ∈ l, f x = some (p x)) :
    forK l (fun (i : Nat) x (s : Unit) nx => callK (f x) fun y => if y = true then some (i : Int) else nx s) () (fun _ => some (-1)) = some (idxP p l) := by
  refine Eq.trans ?_ (forK_idx (f := fun x => some (p x)) (p := p) (fun x => rfl) l)
  exact forGo_congr l 0 () fun x hx i s nx => by rw [hp x hx]
/-- What is left: those for which the condition is false. -/
theorem delF_ok {α : Type} (z : α) {f : α → Option Bool} {p : α → Bool} (l : List α) (hl : l.length ≤ 100000000) (hp : ∀ x ∈ l, f x = some (p x)) : delF z f l = some (l.filter fun x => !p x) := by
  unfold delF
  rw [grd_pos (by omega), idx_mem l hp, callK_some]
  unfold idxP
  cases hi : l.findIdx? p with
  | none =>
    rw [List.findIdx?_eq_none_iff] at hi
    rw [if_pos rfl]
    congr 1
    refine (List.filter_eq_self.mpr fun x hx => ?_).symm
    simp [hi x hx]
  | some j =>
    obtain ⟨hj, h1, h2⟩ := List.findIdx?_eq_some_iff_getElem.mp hi
    dsimp only
    rw [if_neg (by omega), wrap_sm _ (by omega) (by omega)]
    have hfj : (l.take (j + 1)).filter (fun x => !p x) = l.take j := by
      rw [List.take_succ_eq_append_getElem hj, List.filter_append]
      have a : (l.take j).filter (fun x => !p x) = l.take j := List.filter_eq_self.mpr fun x hx => by
        obtain ⟨i, hi1, rfl⟩ := List.mem_take_iff_getElem.mp hx
        have := h2 i (by omega)
        simpa using this
      rw [a]; simp [h1]
    refine iterK_rule (fun d (s : Int × Int × List α) => ∃ w r : Nat, s.1 = w ∧ s.2.1 = r ∧ w < r ∧ r ≤ l.length ∧ d = l.length - r ∧ s.2.2.length = l.length ∧ s.2.2.take w = (l.take r).filter (fun x => !p x) ∧ s.2.2.drop r = l.drop r) ?_ (l.length - (j + 1)) _ (by unfold NN; omega)
      ⟨j, j + 1, rfl, by dsimp only; omega, by omega, by omega, rfl, rfl, hfj.symm, rfl⟩
    rintro d ⟨v3, v4, v5⟩ ⟨w, r, e1, e2, e3, e4, e5, e6, e7, e8⟩ nx hnx
    dsimp only at e1 e2 e6 e7 e8 hnx ⊢
    subst e1 e2
    have hfl : ((l.take r).filter (fun x => !p x)).length = w := by
      rw [← e7, List.length_take]; omega
    by_cases hr : r < l.length
    · have hx : v5[r]'(by omega) = l[r] := by
        have a := congrArg (fun t => t[0]?) e8
        simp [hr, e6] at a
        exact a
      rw [if_pos (by omega), getK_lt (by omega), hx, hp _ (List.getElem_mem hr), callK_some]
      have hs : (l.take (r + 1)).filter (fun x => !p x) = (l.take r).filter (fun x => !p x) ++ (if p l[r] = true then [] else [l[r]]) := by
        rw [List.take_succ_eq_append_getElem hr, List.filter_append]
        congr 1
        cases hq : p l[r] <;> simp [hq]
      have hd : ∀ u : List α, u.length = l.length → u.drop r = l.drop r → u.drop (r + 1) = l.drop (r + 1) := fun u _ h => by
        have := congrArg (List.drop 1) h
        simpa [List.drop_drop] using this
      by_cases hq : p l[r] = true
      · rw [if_pos hq, wrap_sm _ (by omega) (by omega)]
        exact hnx _ _ (by omega) ⟨w, r + 1, rfl, by dsimp only; omega, by omega, by omega, rfl, e6, by dsimp only; rw [hs, if_pos hq, List.append_nil, e7], hd _ e6 e8⟩
      · rw [if_neg hq, getK_lt (by omega), wrap_sm _ (by omega) (by omega), wrap_sm _ (by omega) (by omega), Int.toNat_natCast]
        refine hnx (l.length - (r + 1)) _ (by omega) ⟨w + 1, r + 1, by dsimp only; omega, by dsimp only; omega, by omega, by omega, rfl, by simpa using e6, ?_, ?_⟩
        · dsimp only
          rw [hs, if_neg hq, ← e7, List.take_succ_eq_append_getElem (by simp; omega), List.take_set_of_le (by omega)]
          simp
        · dsimp only
          rw [List.drop_set_of_lt (by omega)]
          exact hd _ e6 e8
    · have hrl : r = l.length := by omega
      subst hrl
      rw [if_neg (by omega), grd_pos (by omega), grd_pos (by simp; omega), Int.toNat_natCast, List.take_append_of_le_length (by simp; omega), List.take_take, Nat.min_self, e7, List.take_length]

theorem a8At_ok (code : List Int) (i n : Int) (h : code.length ≤ 1048576) : ∃ r, p_laws_a8At code i n = some r := by
  unfold p_laws_a8At
  by_cases hn : n ≤ 1
  · rw [if_pos hn]; exact ⟨_, rfl⟩
  · rw [if_neg hn, grd_pos (by omega)]
    obtain ⟨r, e, _⟩ := forK_ex (l := code) (f := fun (i6 : Nat) x9 (v7 : Int) (nx8 : Int → Option Int) => nx8 (Int.tmod (IntKind.i64.wrap ((IntKind.i64.wrap (v7 * 31)) + (IntKind.i64.wrap x9))) 1000003)) (k := fun (v7 : Int) => grd (n ≠ 0) <| some (Int.tmod v7 n)) (Q := fun _ => True)
      (fun _ _ => True) (fun i hi s _ nx hnx => hnx _ trivial) (fun s _ => by rw [grd_pos (by omega)]; exact ⟨_, rfl, trivial⟩) (IntKind.i64.wrap ((IntKind.i64.wrap (i * 7)) + 3)) trivial
    exact ⟨r, e⟩
theorem u8_in (n : Int) : 0 ≤ IntKind.u8.wrap n ∧ IntKind.u8.wrap n ≤ 255 := by unfold IntKind.wrap; simp [IntKind.signed, IntKind.bits]; omega
theorem mix_ok {code : List Int} (i : Int) (h : ∀ x ∈ code, 0 ≤ x ∧ x ≤ 255) (hl : code.length ≤ 1000000) : ∃ r, p_laws_a8Mix code i = some r ∧ (∀ x ∈ r, 0 ≤ x ∧ x ≤ 255) ∧ r.length = code.length + 2 := by
  unfold p_laws_a8Mix
  obtain ⟨y, e⟩ := a8At_ok code i 256 (by omega)
  rw [e, callK_some, grd_pos (appOk_of _ _ (by omega))]
  refine ⟨_, rfl, fun x hx => ?_, by simp⟩
  simp only [List.cons_append, List.nil_append, List.mem_cons] at hx
  rcases hx with rfl | rfl | hx
  · exact u8_in _
  · exact u8_in _
  · exact h x hx


theorem among_ok {b : Int} {s : Sl00Src} (l : List Int) (hl : 0 < l.length) (hb : 0 ≤ b) (h : SrcOk (b + 2) s) : ∃ r s', p_spec_l00Src_among l s = some (r, s') ∧ r ∈ l ∧ SrcOk b s' := by
  obtain ⟨r, s1, e1, ⟨b1, b2, b3⟩, o1⟩ := pick_ok (l.length : Int) hb h
  unfold p_spec_l00Src_among
  have hr : r < (l.length : Int) := by
    rcases Nat.lt_or_ge 1 l.length with h | h
    · exact b2 (by omega)
    · have := b3 (by omega); omega
  rw [e1, callK_some, getK_in b1 hr]
  exact ⟨_, _, rfl, List.getElem_mem _, o1⟩

/-! ### What the functions on records come to -/
theorem ifs_pos {R : Type} {a b : ByteArray} (h : a = b) (x y : Option R) : (if (a.toList == b.toList) = true then x else y) = x := by rw [if_pos]; rw [str_eq]; exact decide_eq_true h
theorem ifs_neg {R : Type} {a b : ByteArray} (h : a ≠ b) (x y : Option R) : (if (a.toList == b.toList) = true then x else y) = y := by rw [if_neg]; rw [str_eq]; simpa using h
theorem pl_sLess (a b : Record) : p_spec_l17Less a b = some (rl a b) := by
  unfold p_spec_l17Less
  by_cases k : a.Key = b.Key
  · rw [ifs_pos k]
    by_cases s : a.Seq = b.Seq
    · rw [if_neg (by simpa using s)]
      by_cases d : a.Kind = b.Kind
      · rw [if_neg (by simpa using d)]
        by_cases v : a.Value = b.Value
        · rw [ifs_pos v]
          congr 1
          exact rl_of (by rw [kl_b]; simp [RL, Lx, k, s, d, v, kl_irr])
        · rw [ifs_neg v]
          congr 1
          exact rl_of (by rw [kl_b]; simp [RL, Lx, k, s, d, v, kl_irr])
      · rw [if_pos d]
        congr 1
        exact rl_of (by simp [RL, Lx, k, s, d, kl_irr])
    · rw [if_pos s]
      congr 1
      exact rl_of (by simp [RL, Lx, k, s, kl_irr])
  · rw [ifs_neg k]
    congr 1
    exact rl_of (by rw [kl_b]; simp [RL, Lx, k])
def cmpN (a b : Int) : Int := if a < b then -1 else if a > b then 1 else 0
theorem pl_cmp (a b : Int) : p_cmp_Compare a b = some (cmpN a b) := by
  unfold p_cmp_Compare p_cmp_isNaN cmpN
  simp only [callK_some, bne_self_eq_false, Bool.false_eq_true, if_false]
  repeat' split
  all_goals rfl
theorem pl_or5 (a b c d e : Int) : p_cmp_Or ([a, b, c, d, e] : List Int) = some (if a ≠ 0 then a else if b ≠ 0 then b else if c ≠ 0 then c else if d ≠ 0 then d else e) := by
  unfold p_cmp_Or forK
  rw [grd_pos (by simp)]
  simp only [forGo_cons, forGo_nil]
  repeat' split
  all_goals simp_all
theorem pl_iLess (a b : Record) : p_impl_LessRecord a b = some (rl a b) := by
  unfold p_impl_LessRecord p_impl_compareRecords
  rw [pl_cmp, callK_some, pl_cmp, callK_some, pl_or5, callK_some, callK_some]
  congr 1
  refine rl_of ?_
  rw [decide_eq_true_iff]
  have e1 := cmpB_eq (a := a.Key) (b := b.Key)
  have l1 := cmpB_lt (a := a.Key) (b := b.Key)
  have e4 := cmpB_eq (a := a.Value) (b := b.Value)
  have l4 := cmpB_lt (a := a.Value) (b := b.Value)
  have l5 := cmpB_lt (a := a.End) (b := b.End)
  generalize cmpB a.Key b.Key = x1 at *
  generalize cmpB a.Value b.Value = x4 at *
  generalize cmpB a.End b.End = x5 at *
  simp only [RL, Lx]
  rw [← l1, ← l4, ← l5, ← e1, ← e4]
  unfold cmpN
  by_cases k : x1 = 0
  · subst k
    rw [if_neg (by simp)]
    rcases Int.lt_trichotomy b.Seq a.Seq with s | s | s
    · simp [s]
    · simp only [s, Int.lt_irrefl, gt_iff_lt, if_false, ne_eq, not_true_eq_false, false_or, true_and]
      rcases Int.lt_trichotomy a.Kind b.Kind with d | d | d
      · simp [d]
      · simp only [d, Int.lt_irrefl, if_false, not_true_eq_false, false_or, true_and]
        by_cases v : x4 = 0
        · subst v; simp
        · simp [v]
      · have d2 : ¬ a.Kind < b.Kind := by omega
        have d3 : ¬ a.Kind = b.Kind := by omega
        simp [d, d2, d3]
    · have s2 : ¬ b.Seq < a.Seq := by omega
      have s3 : ¬ a.Seq = b.Seq := by omega
      simp [s, s2, s3]
  · rw [if_pos k]
    simp [k]
theorem pl_iKey (k : ByteArray) : p_impl_ValidKey k = some (okKey k) := rfl
theorem pl_sKey (k : ByteArray) : p_spec_l17Key k = some (okKey k) := by
  unfold p_spec_l17Key okKey
  split
  · rename_i h
    congr 1
    rw [Bool.eq_iff_iff, decide_eq_true_iff, inR_iff]
    omega
  · rename_i h
    rw [inR_not.mpr (by omega)]
theorem pl_sRec (r : Record) : p_spec_l17Valid r = some (okRec r) := by
  unfold p_spec_l17Valid okRec
  rw [pl_sKey, callK_some]
  cases okKey r.Key
  · rfl
  cases inR r.Seq 1 1000000
  · rfl
  simp only [if_true, Bool.true_and]
  by_cases k1 : r.Kind = 1
  · rw [if_pos k1, if_pos k1]
    by_cases hv : (r.Value.size : Int) ≤ 16
    · rw [if_pos hv]; simp [hv, isE]
    · rw [if_neg hv]; simp [hv]
  · rw [if_neg k1, if_neg k1]
    by_cases k2 : r.Kind = 2
    · rw [if_pos k2, if_pos k2]
      unfold isE
      cases r.Value.toList == (⟨#[]⟩ : ByteArray).toList <;> rfl
    · rw [if_neg k2, if_neg k2]
      by_cases k3 : r.Kind = 3
      · rw [if_pos k3, if_pos k3, pl_sKey, callK_some]
        unfold isE
        cases r.Value.toList == (⟨#[]⟩ : ByteArray).toList <;> cases okKey r.End <;> rfl
      · rw [if_neg k3, if_neg k3]
theorem less_not (a b : ByteArray) : (!(Op.bytesLess a.toList b.toList || a.toList == b.toList)) = Op.bytesLess b.toList a.toList := by
  rw [str_eq, Bool.eq_iff_iff]
  simp only [Bool.not_eq_true', Bool.or_eq_false_iff, decide_eq_false_iff_not]
  constructor
  · rintro ⟨h1, h2⟩
    exact Classical.byContradiction fun h => h2 (kl_tri a b (by unfold kl; rw [h1]; simp) h)
  · intro h
    have h : kl b a := h
    refine ⟨?_, (kl_ne h).symm⟩
    have := kl_as h
    unfold kl at this
    simpa using this
theorem pl_iRec (r : Record) : p_impl_ValidRecord r = some (okRec r) := by
  rw [← pl_sRec]
  unfold p_impl_ValidRecord p_spec_l17Valid
  simp only [pl_iKey, pl_sKey, callK_some, less_not]
theorem rec_eq (x r : Record) : ((x.Key.toList == r.Key.toList) && ((x.Seq == r.Seq) && ((x.Kind == r.Kind) && ((x.Value.toList == r.Value.toList) && ((x.End.toList == r.End.toList) && true))))) = @decide (x = r) (Classical.propDecidable _) := by
  rw [Bool.eq_iff_iff, @decide_eq_true_iff _ (Classical.propDecidable _)]
  simp only [str_eq, Bool.and_eq_true, beq_iff_eq, decide_eq_true_eq, and_true]
  constructor
  · rintro ⟨h1, h2, h3, h4, h5⟩
    cases x; cases r
    simp_all
  · rintro rfl; simp
/-! ### The draw of a run -/
theorem text_ok {b : Int} {s : Sl00Src} (l : List ByteArray) (hl : 0 < l.length) (hb : 0 ≤ b) (h : SrcOk (b + 2) s) : ∃ r s', p_spec_l00Src_text l s = some (r, s') ∧ r ∈ l ∧ SrcOk b s' := by
  obtain ⟨r, s1, e1, ⟨b1, b2, b3⟩, o1⟩ := pick_ok (l.length : Int) hb h
  unfold p_spec_l00Src_text
  have hr : r < (l.length : Int) := by
    rcases Nat.lt_or_ge 1 l.length with h | h
    · exact b2 (by omega)
    · have := b3 (by omega); omega
  rw [e1, callK_some, getK_in b1 hr]
  exact ⟨_, _, rfl, List.getElem_mem _, o1⟩
theorem okRec_mk {k v e : ByteArray} {q kd : Int} (hk : okKey k = true) (hq : 1 ≤ q ∧ q ≤ 1000000) (h : (kd = 1 ∧ (v.size : Int) ≤ 16 ∧ e = ⟨#[]⟩) ∨ (kd = 2 ∧ v = ⟨#[]⟩ ∧ e = ⟨#[]⟩) ∨ (kd = 3 ∧ v = ⟨#[]⟩ ∧ okKey e = true ∧ kl k e)) : okRec ⟨k, q, kd, v, e⟩ = true := by
  unfold okRec
  dsimp only
  rw [hk, inR_iff.mpr hq]
  rcases h with ⟨rfl, h1, rfl⟩ | ⟨rfl, rfl, rfl⟩ | ⟨rfl, rfl, h1, h2⟩
  · rw [if_pos rfl, isE_iff.mpr rfl]; simp [h1]
  · rw [if_neg (by decide), if_pos rfl, isE_iff.mpr rfl]; rfl
  · rw [if_neg (by decide), if_neg (by decide), if_pos rfl, isE_iff.mpr rfl, h1, show Op.bytesLess k.toList e.toList = true from h2]; rfl
theorem draw_ok {b q : Int} {s : Sl00Src} (hb : 0 ≤ b) (hq : 1 ≤ q ∧ q ≤ 1000000) (h : SrcOk (b + 10) s) : ∃ r s', p_spec_l17Draw q s = some (r, s') ∧ r.Seq = q ∧ okRec r = true ∧ SrcOk b s' := by
  unfold p_spec_l17Draw p_spec_l17DrawKey
  obtain ⟨k, s1, e1, m1, o1⟩ := text_ok (b := b + 8) (s := s) ([(⟨#[97]⟩ : ByteArray), (⟨#[98]⟩ : ByteArray), (⟨#[99]⟩ : ByteArray), (⟨#[100]⟩ : ByteArray), (⟨#[101]⟩ : ByteArray), (⟨#[97, 98]⟩ : ByteArray), (⟨#[98, 49]⟩ : ByteArray), (⟨#[107, 101, 121, 56, 98, 121, 116, 101]⟩ : ByteArray), (⟨#[0]⟩ : ByteArray), (⟨#[255, 255]⟩ : ByteArray)] : List ByteArray) (by simp) (by omega) (h.le (by omega))
  rw [e1, callK_some, callK_some]
  have hk : okKey k = true := by
    simp only [List.mem_cons, List.not_mem_nil, or_false] at m1
    rcases m1 with rfl | rfl | rfl | rfl | rfl | rfl | rfl | rfl | rfl | rfl <;> rfl
  obtain ⟨y2, s2, e2, m2, o2⟩ := among_ok (b := b + 6) (s := s1) ([1, 1, 1, 2, 3] : List Int) (by simp) (by omega) (o1.le (by omega))
  dsimp only
  rw [e2, callK_some]
  dsimp only
  by_cases k1 : y2 = 1
  · rw [if_pos k1]
    obtain ⟨v, s3, e3, m3, o3⟩ := text_ok (b := b + 4) (s := s2) ([(⟨#[]⟩ : ByteArray), (⟨#[49]⟩ : ByteArray), (⟨#[116, 119, 111]⟩ : ByteArray), (⟨#[115, 105, 120, 116, 101, 101, 110, 32, 98, 121, 116, 101, 115, 32, 111, 107]⟩ : ByteArray), (⟨#[0]⟩ : ByteArray)] : List ByteArray) (by simp) (by omega) (o2.le (by omega))
    have hv : (v.size : Int) ≤ 16 := by
      simp only [List.mem_cons, List.not_mem_nil, or_false] at m3
      rcases m3 with rfl | rfl | rfl | rfl | rfl <;> decide
    rw [e3, callK_some]
    exact ⟨_, _, rfl, rfl, okRec_mk hk hq (.inl ⟨k1, hv, rfl⟩), o3.le (by omega)⟩
  · rw [if_neg k1]
    by_cases k3 : y2 = 3
    · rw [if_pos k3]
      obtain ⟨x, s3, e3, m3, o3⟩ := text_ok (b := b + 4) (s := s2) ([(⟨#[97]⟩ : ByteArray), (⟨#[98]⟩ : ByteArray), (⟨#[97, 98]⟩ : ByteArray), (⟨#[99]⟩ : ByteArray)] : List ByteArray) (by simp) (by omega) (o2.le (by omega))
      obtain ⟨z, s4, e4, m4, o4⟩ := text_ok (b := b + 2) (s := s3) ([(⟨#[100]⟩ : ByteArray), (⟨#[101]⟩ : ByteArray), (⟨#[98, 49, 0]⟩ : ByteArray), (⟨#[255]⟩ : ByteArray)] : List ByteArray) (by simp) (by omega) (o3.le (by omega))
      rw [e3, callK_some]
      dsimp only
      rw [e4, callK_some]
      dsimp only
      simp only [List.mem_cons, List.not_mem_nil, or_false] at m3 m4
      have hx : okKey x = true := by rcases m3 with rfl | rfl | rfl | rfl <;> rfl
      by_cases hl : Op.bytesLess x.toList z.toList = true
      · rw [if_pos hl]
        refine ⟨_, _, rfl, rfl, okRec_mk hx hq (.inr (.inr ⟨k3, rfl, ?_, hl⟩)), o4.le (by omega)⟩
        rcases m4 with rfl | rfl | rfl | rfl <;> rfl
      · rw [if_neg hl]
        refine ⟨_, _, rfl, rfl, okRec_mk hx hq (.inr (.inr ⟨k3, rfl, rfl, ?_⟩)), o4.le (by omega)⟩
        unfold kl
        rw [toList_data, toList_data]
        rcases m3 with rfl | rfl | rfl | rfl <;> decide
    · rw [if_neg k3]
      have k2 : y2 = 2 := by
        simp only [List.mem_cons, List.not_mem_nil, or_false] at m2
        omega
      exact ⟨_, _, rfl, rfl, okRec_mk hk hq (.inr (.inl ⟨k2, rfl, rfl⟩)), o2.le (by omega)⟩

/-! ### The drawn records -/
theorem any_ok {b : Int} {s : Sl00Src} (hb : 0 ≤ b) (h : SrcOk (b + 30) s) : ∃ r s', p_spec_l17Any s = some (r, s') ∧ SrcOk b s' := by
  unfold p_spec_l17Any
  obtain ⟨y1, s1, e1, ⟨b1, b1', _⟩, o1⟩ := pick_ok (b := b + 20) 40 (by omega) (h.le (by omega))
  have b1' := b1' (by omega)
  have w1 : IntKind.i64.wrap (1 + y1) = 1 + y1 := wrap_sm _ (by omega) (by omega)
  obtain ⟨r, s2, e2, _, _, o2⟩ := draw_ok (b := b + 10) (q := 1 + y1) (by omega) (by omega) (o1.le (by omega))
  obtain ⟨y3, s3, e3, _, o3⟩ := pick_ok (b := b + 4) 14 (by omega) (o2.le (by omega))
  rw [e1, callK_some]
  dsimp only
  rw [w1, e2, callK_some]
  dsimp only
  rw [e3, callK_some]
  dsimp only
  by_cases c0 : y3 = 0
  · rw [if_pos c0]
    obtain ⟨x, s4, e4, _, o4⟩ := text_ok (b := b) (s := s3) ([(⟨#[]⟩ : ByteArray), (⟨#[110, 105, 110, 101, 98, 121, 116, 101, 115]⟩ : ByteArray), (⟨#[97]⟩ : ByteArray)] : List ByteArray) (by simp) hb (o3.le (by omega))
    rw [e4, callK_some]; exact ⟨_, _, rfl, o4⟩
  rw [if_neg c0]
  by_cases c1 : y3 = 1
  · rw [if_pos c1]
    obtain ⟨x, s4, e4, _, o4⟩ := among_ok (b := b) (s := s3) ([0, (-1), 1000000, 1000001, 1099511627776] : List Int) (by simp) hb (o3.le (by omega))
    rw [e4, callK_some]; exact ⟨_, _, rfl, o4⟩
  rw [if_neg c1]
  by_cases c2 : y3 = 2
  · rw [if_pos c2]
    obtain ⟨x, s4, e4, _, o4⟩ := pick_ok (b := b) (s := s3) 6 hb (o3.le (by omega))
    rw [e4, callK_some]; exact ⟨_, _, rfl, o4⟩
  rw [if_neg c2]
  by_cases c3 : y3 = 3
  · rw [if_pos c3]
    obtain ⟨x, s4, e4, _, o4⟩ := text_ok (b := b) (s := s3) ([(⟨#[]⟩ : ByteArray), (⟨#[120]⟩ : ByteArray), (⟨#[115, 101, 118, 101, 110, 116, 101, 101, 110, 32, 98, 121, 116, 101, 115, 33, 33]⟩ : ByteArray)] : List ByteArray) (by simp) hb (o3.le (by omega))
    rw [e4, callK_some]; exact ⟨_, _, rfl, o4⟩
  rw [if_neg c3]
  by_cases c4 : y3 = 4
  · rw [if_pos c4]
    obtain ⟨x, s4, e4, _, o4⟩ := text_ok (b := b) (s := s3) ([(⟨#[]⟩ : ByteArray), (⟨#[97]⟩ : ByteArray), (⟨#[110, 105, 110, 101, 98, 121, 116, 101, 115]⟩ : ByteArray)] : List ByteArray) (by simp) hb (o3.le (by omega))
    rw [e4, callK_some]; exact ⟨_, _, rfl, o4⟩
  rw [if_neg c4]
  exact ⟨_, _, rfl, o3.le (by omega)⟩
theorem recs_ok {code : List Int} (h : ∀ x ∈ code, 0 ≤ x ∧ x ≤ 255) (hl : code.length ≤ 1048576) : ∃ l, p_spec_A8Records code = some l ∧ l.length ≤ 20 := by
  unfold p_spec_A8Records p_spec_DrawSortRecords
  obtain ⟨s, e0, o0⟩ := from_ok h hl
  obtain ⟨y1, s1, e1, ⟨b1, b1', _⟩, o1⟩ := pick_ok (b := 90000) 8 (by omega) (o0.le (by omega))
  have b1' := b1' (by omega)
  rw [e0, callK_some, e1, callK_some]
  dsimp only
  obtain ⟨r, e, g⟩ := iterK_ex (Q := fun (r : List Record) => r.length ≤ 20)
    (f := fun ((v3, v4, v5) : (Int × Sl00Src × (List Record))) (nx6 : (Int × Sl00Src × (List Record)) → Option (List Record)) =>
    if v3 > 0 then
      callK (p_spec_l17Any v4) fun y8 =>
      grd (appOk (v5.length + 1) 64 = true) <|
      callK (p_spec_l00Src_one 4 y8.2) fun y9 =>
      if y9.1 = true then
        getK (v5 ++ ([y8.1] : List Record)) 0 fun x11 =>
        grd (appOk ((v5 ++ ([y8.1] : List Record)).length + 1) 64 = true) <|
        nx6 ((IntKind.i64.wrap (v3 - 1)), y9.2, ((v5 ++ ([y8.1] : List Record)) ++ ([x11] : List Record)))
      else
        nx6 ((IntKind.i64.wrap (v3 - 1)), y9.2, (v5 ++ ([y8.1] : List Record)))
    else
      some v5)
    (fun d s => s.1 = d ∧ d ≤ 7 ∧ s.2.2.length + 2 * d ≤ 14 ∧ SrcOk (1000 + d * 50) s.2.1)
    (fun d s hs nx hnx => by
      obtain ⟨v3, v4, v5⟩ := s
      obtain ⟨h1, h2, h3, h4⟩ := hs
      dsimp only at h1 h3 h4 ⊢
      subst h1
      by_cases hd : (d : Int) > 0
      · rw [if_pos hd]
        obtain ⟨a, sa, ea, oa⟩ := any_ok (b := 1000 + (d : Int) * 50 - 40) (by omega) (h4.le (by omega))
        obtain ⟨o, so, eo, oo⟩ := one_ok (b := 1000 + (d : Int) * 50 - 50) 4 (by omega) (oa.le (by omega))
        have w : IntKind.i64.wrap ((d : Int) - 1) = ((d - 1 : Nat) : Int) := by rw [wrap_sm _ (by omega) (by omega)]; omega
        rw [ea, callK_some]
        dsimp only
        rw [grd_pos (appOk_of _ _ (by omega)), eo, callK_some]
        dsimp only
        rw [w]
        have hl1 : (v5 ++ [a]).length = v5.length + 1 := by simp
        cases o with
        | true =>
          rw [if_pos rfl, show (0 : Int) = ((0 : Nat) : Int) from rfl, getK_lt (by omega), grd_pos (appOk_of _ _ (by omega))]
          exact hnx (d - 1) _ (by omega) ⟨rfl, by omega, by dsimp only; simp only [List.length_append, List.length_cons, List.length_nil]; omega, oo.le (by omega)⟩
        | false =>
          rw [if_neg (by decide)]
          exact hnx (d - 1) _ (by omega) ⟨rfl, by omega, by dsimp only; rw [hl1]; omega, oo.le (by omega)⟩
      · rw [if_neg hd]
        exact ⟨_, rfl, by omega⟩)
    y1.toNat (y1, s1, []) (by unfold NN; omega) ⟨by show y1 = _; omega, by omega, by simp; omega, o1.le (by omega)⟩
  rw [e, callK_some]
  exact ⟨r, rfl, g⟩
theorem rec_ok {code : List Int} (h : ∀ x ∈ code, 0 ≤ x ∧ x ≤ 255) (hl : code.length ≤ 1048576) : ∃ r, p_spec_A8Record code = some r := by
  unfold p_spec_A8Record
  obtain ⟨s, e0, o0⟩ := from_ok h hl
  obtain ⟨y1, s1, e1, ⟨b1, b1', _⟩, o1⟩ := pick_ok (b := 90000) 50 (by omega) (o0.le (by omega))
  have b1' := b1' (by omega)
  have w1 : IntKind.i64.wrap (1 + y1) = 1 + y1 := wrap_sm _ (by omega) (by omega)
  obtain ⟨r, s2, e2, _⟩ := draw_ok (b := 80000) (q := 1 + y1) (by omega) (by omega) (o1.le (by omega))
  rw [e0, callK_some, e1, callK_some]
  dsimp only
  rw [w1, e2, callK_some]
  exact ⟨_, rfl⟩
/-! ### Sorting -/
noncomputable def srd (l : List Record) : List Record := cpt (TK0.sortR (l.filter okRec))
theorem srd_mem {l : List Record} {x : Record} : x ∈ srd l ↔ x ∈ l ∧ okRec x = true := by
  unfold srd
  rw [cpt_mem, TK0.sortR_mem, List.mem_filter]
theorem srd_srt (l : List Record) : (srd l).Pairwise RL := cpt_sorted RL_tr (TK0.sortR_pair _)
theorem srd_ext {l m : List Record} (h : ∀ x, x ∈ l ↔ x ∈ m) : srd l = srd m := sorted_ext RL_tr RL_irr (srd_srt l) (srd_srt m) fun x => by rw [srd_mem, srd_mem, h x]
theorem srd_again (l : List Record) : srd (srd l) = srd l := sorted_ext RL_tr RL_irr (srd_srt _) (srd_srt l) fun x => by
  rw [srd_mem, srd_mem]
  exact ⟨fun h => h.1, fun h => ⟨h, h.2⟩⟩
theorem srd_len (l : List Record) : (srd l).length ≤ l.length := by
  unfold srd
  have h1 := cpt_len (TK0.sortR (l.filter okRec))
  rw [TK0.sortR_len] at h1
  exact Nat.le_trans h1 (List.length_filter_le _ _)
theorem pl_cptR (l : List Record) (h : l.length ≤ 1000000) : p_slices_Compact l = some (cpt l) := by
  have e0 : ∀ m : List Record, p_slices_Compact m = cmpG (⟨(⟨#[]⟩ : ByteArray), 0, 0, (⟨#[]⟩ : ByteArray), (⟨#[]⟩ : ByteArray)⟩ : Record) (fun (x y : Record) => ((x.Key.toList == y.Key.toList) && ((x.Seq == y.Seq) && ((x.Kind == y.Kind) && ((x.Value.toList == y.Value.toList) && ((x.End.toList == y.End.toList) && true)))))) m := fun m => by
    unfold p_slices_Compact cmpG
    rfl
  exact (e0 _).trans (cmpG_ok _ (fun x y => by rw [rec_eq]; simp) _ h)
theorem pl_sort (l : List Record) (hl : l.length ≤ 1000) : p_impl_SortRecords l = some (srd l) := by
  unfold p_impl_SortRecords
  have hd := delF_ok (⟨(⟨#[]⟩ : ByteArray), 0, 0, (⟨#[]⟩ : ByteArray), (⟨#[]⟩ : ByteArray)⟩ : Record) (f := fun x => p_impl_SortRecords_c1 x) (p := fun r => !okRec r) l (by omega) (fun x hx => by unfold p_impl_SortRecords_c1; rw [pl_iRec, callK_some])
  have hd2 : p_slices_DeleteFunc_impl_SortRecords_c1 l = some (l.filter fun x => !!okRec x) := hd
  have hf : (l.filter fun x => !!okRec x) = l.filter okRec := by simp
  rw [hf] at hd2
  have hfl := List.length_filter_le okRec l
  rw [grd_pos (appOk_of _ _ (by omega)), hd2, callK_some, grd_pos (by omega), pl_cptR _ (by rw [TK0.sortR_len]; omega), callK_some]
  rfl
theorem pl_same {m : List Record} (hl : m.length ≤ 1000) : p_laws_a8Same m m = some true := by
  unfold p_laws_a8Same
  rw [if_neg (by simp), grd_pos (by omega)]
  refine forK_rule (fun _ _ => True) (fun i hi s _ nx hnx => ?_) (fun s _ => rfl) () trivial
  rw [getK_lt hi, rec_eq, if_pos (by simp)]
  exact hnx () trivial
theorem tail_ok {code : List Int} (h : ∀ x ∈ code, 0 ≤ x ∧ x ≤ 255) (hl : code.length ≤ 1048576) :
    (callK (p_spec_A8Records code) fun y19 =>
                iterK (fun ((v20, v21) : (Int × (List Record))) (nx22 : (Int × (List Record)) → Option Bool) =>
                  if v20 ≥ 0 then
                    getK y19 v20 fun x24 =>
                    grd (appOk (v21.length + 1) 64 = true) <|
                    nx22 ((IntKind.i64.wrap (v20 - 1)), (v21 ++ ([x24] : List Record)))
                  else
                    callK (p_impl_SortRecords y19) fun y25 =>
                    callK (p_impl_SortRecords v21) fun y26 =>
                    callK (p_laws_a8Same y25 y26) fun y27 =>
                    if y27 = true then
                      callK (p_impl_SortRecords y25) fun y29 =>
                      callK (p_laws_a8Same y25 y29) fun y30 =>
                      if y30 = true then
                        grd (y25.length < 4611686018427387904) <|
                        forK y25 (fun (i41 : Nat) x43 (_ : Unit) (nx42 : Unit → Option Bool) =>
                          callK (p_spec_ValidRecord x43) fun y44 =>
                          if y44 = true then
                            if (i41 : Int) > 0 then
                              getK y25 (IntKind.i64.wrap ((i41 : Int) - 1)) fun x47 =>
                              callK (p_spec_LessRecord x47 x43) fun y48 =>
                              if y48 = true then
                                nx42 ()
                              else
                                some false
                            else
                              nx42 ()
                          else
                            some false) () (fun (_ : Unit) =>
                          some true)
                      else
                        some false
                    else
                      some false) NN ((IntKind.i64.wrap ((y19.length : Int) - 1)), ([] : List Record))) = some true := by
  obtain ⟨l, e, hl2⟩ := recs_ok h hl
  rw [e, callK_some, wrap_sm _ (by omega) (by omega)]
  refine iterK_rule (fun d (s : Int × List Record) => s.1 = (d : Int) - 1 ∧ d ≤ l.length ∧ s.2 = (l.drop d).reverse) (fun d s hs nx hnx => ?_) l.length _ (by unfold NN; omega) ⟨rfl, Nat.le_refl _, by simp⟩
  obtain ⟨v1, v2⟩ := s
  obtain ⟨h1, h2, h3⟩ := hs
  dsimp only at h1 h3 ⊢
  subst h1 h3
  have hr : (l.drop d).reverse.length = l.length - d := by simp
  by_cases hd : (d : Int) - 1 ≥ 0
  · have e1 : (d : Int) - 1 = ((d - 1 : Nat) : Int) := by omega
    rw [if_pos hd, wrap_sm _ (by omega) (by omega), e1, getK_lt (by omega), grd_pos (appOk_of _ _ (by omega))]
    refine hnx (d - 1) _ (by omega) ⟨by dsimp only, by omega, ?_⟩
    dsimp only
    rw [List.drop_eq_getElem_cons (show d - 1 < l.length by omega), List.reverse_cons, show d - 1 + 1 = d by omega]
  · rw [if_neg hd]
    have d0 : d = 0 := by omega
    subst d0
    have hs := srd_len l
    rw [List.drop_zero, pl_sort l (by omega), callK_some, pl_sort _ (by simp; omega), callK_some, srd_ext (l := l.reverse) (m := l) (fun x => List.mem_reverse), pl_same (by omega), callK_some, if_pos rfl, pl_sort _ (by omega), callK_some, srd_again, pl_same (by omega), callK_some, if_pos rfl, grd_pos (by omega)]
    refine forK_rule (fun _ _ => True) (fun i hi _ _ nx2 hnx2 => ?_) (fun _ _ => rfl) () trivial
    have hm := srd_mem.mp (List.getElem_mem hi)
    unfold p_spec_ValidRecord
    rw [pl_sRec, callK_some, callK_some, hm.2, if_pos rfl]
    by_cases h0 : (i : Int) > 0
    · have hp := List.pairwise_iff_getElem.mp (srd_srt l) (i - 1) i (by omega) hi (by omega)
      unfold p_spec_LessRecord
      rw [if_pos h0, wrap_sm _ (by omega) (by omega), show (i : Int) - 1 = ((i - 1 : Nat) : Int) by omega, getK_lt (by omega), pl_sLess, callK_some, callK_some, if_pos (rl_iff.mpr hp)]
      exact hnx2 () trivial
    · rw [if_neg h0]
      exact hnx2 () trivial
theorem rl_no {a b : Record} : rl a b = false ↔ ¬ RL a b := by rw [← rl_iff]; simp
theorem wz : (((IntKind.i64.wrap (0 + 1)) : Int) == 0) = false := rfl
theorem pl_law (code : List Int) (hk : okL u8r code) : p_laws_FnRecordOrder code = some true := by
  unfold p_laws_FnRecordOrder
  by_cases hc : (code.length : Int) > 400
  · rw [if_pos hc]
  rw [if_neg hc]
  have tl := tail_ok hk.2 (by omega)
  obtain ⟨a, e1⟩ := rec_ok hk.2 (by omega)
  obtain ⟨m, e2, m1, m2⟩ := mix_ok 1 hk.2 (by omega)
  obtain ⟨b, e3⟩ := rec_ok m1 (by omega)
  obtain ⟨m', e4, m1', m2'⟩ := mix_ok 2 hk.2 (by omega)
  obtain ⟨c, e5⟩ := rec_ok m1' (by omega)
  rw [e1, callK_some, e2, callK_some, e3, callK_some, e4, callK_some, e5, callK_some]
  simp only [pl_iLess, callK_some, rec_eq, wz, show ((0 : Int) == 0) = true from rfl]
  cases h1 : rl a b with
  | true =>
    have r1 := rl_iff.mp h1
    cases h2 : rl b a with
    | true => exact absurd (RL_tr a b a r1 (rl_iff.mp h2)) (RL_irr a)
    | false =>
      have hne : a ≠ b := fun e => by subst e; exact RL_irr a r1
      rw [if_pos rfl, if_neg (by decide), if_pos (by simp [hne]), if_pos rfl]
      cases h3 : rl b c with
      | true =>
        rw [if_pos rfl, if_pos (rl_iff.mpr (RL_tr a b c r1 (rl_iff.mp h3)))]
        exact tl
      | false =>
        rw [if_neg (by decide)]
        exact tl
  | false =>
    rw [if_neg (by decide)]
    cases h2 : rl b a with
    | true =>
      have hne : a ≠ b := fun e => by subst e; exact RL_irr a (rl_iff.mp h2)
      rw [if_pos rfl, if_pos (by simp [hne]), if_neg (by decide)]
      exact tl
    | false =>
      have he : a = b := RL_tri (rl_no.mp h1) (rl_no.mp h2)
      rw [if_neg (by decide), if_pos (by simp [he]), if_neg (by decide)]
      exact tl
theorem f_law (code : List Int) (hk : okL u8r code) : callL E 5 [.d (.arr (code.map rU))] [] = some (BO true, []) := L_laws_FnRecordOrder code (pl_law code hk)


end Go.Proofs.Ytdcgngeepbbikaa.T03

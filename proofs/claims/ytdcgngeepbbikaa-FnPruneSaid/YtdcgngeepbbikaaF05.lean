/- FnPrune: what its functions come to, and the row; conditions: none. -/
import Derived.Test.YtdcgngeepbbikaaT05
import Derived.Test.YtdcgngeepbbikaaEz
import Derived.Test.YtdcgngeepbbikaaRows
import Derived.WalkKit
import Derived.ProofKit
import Derived.OpenShut
import Derived.ShutString
import Derived.ChangeOld
import Derived.Below
import Derived.SizedLaws
namespace Go.Proofs.Ytdcgngeepbbikaa.T05
open Go.Proofs.YtdcgngeepbbikaaE
set_option maxRecDepth 100000
set_option linter.unusedVariables false
set_option linter.unusedSimpArgs false

noncomputable def p_spec_l00In (a_0 : Int) (a_1 : Int) (a_2 : Int) : Option Bool :=
  if a_0 ≥ a_1 then
    some (decide (a_0 ≤ a_2))
  else
    some false

set_option maxHeartbeats 4000000 in
theorem L_spec_l00In (a_0 : Int) (a_1 : Int) (a_2 : Int) {r : Bool} (h : p_spec_l00In a_0 a_1 a_2 = some r) : callL E 202 [IN a_0, IN a_1, IN a_2] ([] : Fo) = some (BO r, ([] : Fo)) := by
  unfold p_spec_l00In at h
  refine callW (fu := Try.f202) rfl rfl rfl NN ?_
  intro lp cl hlp hcl
  conv => lhs; whnf
  cases hb1 : (decide (a_0 ≥ a_1))
  · replace h := ifF h (decF hb1); conv => lhs; whnf
    try (rw [hb1]; conv => lhs; whnf)
    try (rw [hb1]; conv => lhs; whnf)
    try (rw [hb1]; conv => lhs; whnf)
    obtain rfl := Option.some.inj h; show _ = _; kernel_rfl

  · replace h := ifT h (decT hb1); conv => lhs; whnf
    try (rw [hb1]; conv => lhs; whnf)
    try (rw [hb1]; conv => lhs; whnf)
    try (rw [hb1]; conv => lhs; whnf)
    obtain rfl := Option.some.inj h; show _ = _; kernel_rfl

theorem pl_l00In (n lo hi : Int) : p_spec_l00In n lo hi = some (inR n lo hi) := by
  unfold p_spec_l00In inR
  split
  · rename_i h; simp [h]
  · rename_i h; simp [h]


noncomputable def p_impl_within (a_0 : Int) (a_1 : Int) (a_2 : Int) : Option Bool :=
  if a_0 ≥ a_1 then
    some (decide (a_0 ≤ a_2))
  else
    some false

set_option maxHeartbeats 4000000 in
theorem L_impl_within (a_0 : Int) (a_1 : Int) (a_2 : Int) {r : Bool} (h : p_impl_within a_0 a_1 a_2 = some r) : callL E 84 [IN a_0, IN a_1, IN a_2] ([] : Fo) = some (BO r, ([] : Fo)) := by
  unfold p_impl_within at h
  refine callW (fu := Try.f84) rfl rfl rfl NN ?_
  intro lp cl hlp hcl
  conv => lhs; whnf
  cases hb1 : (decide (a_0 ≥ a_1))
  · replace h := ifF h (decF hb1); conv => lhs; whnf
    try (rw [hb1]; conv => lhs; whnf)
    try (rw [hb1]; conv => lhs; whnf)
    try (rw [hb1]; conv => lhs; whnf)
    obtain rfl := Option.some.inj h; show _ = _; kernel_rfl

  · replace h := ifT h (decT hb1); conv => lhs; whnf
    try (rw [hb1]; conv => lhs; whnf)
    try (rw [hb1]; conv => lhs; whnf)
    try (rw [hb1]; conv => lhs; whnf)
    obtain rfl := Option.some.inj h; show _ = _; kernel_rfl

theorem pl_within (n lo hi : Int) : p_impl_within n lo hi = some (inR n lo hi) := by
  unfold p_impl_within inR
  split
  · rename_i h; simp [h]
  · rename_i h; simp [h]



def cmpB (a b : ByteArray) : Int := Lib.compareBytes a.data.toList b.data.toList
theorem f_Compare (a b : ByteArray) : callL E 196 [ST a, ST b] [] = some (IN (cmpB a b), []) := callX rfl rfl

theorem f_sortI {f e : Nat} {l : List Int} (he : Go.Proofs.YtdcgngeepbbikaaE.look E.ext f = some extSortI) (h0 : Nat.beq e U8 = false) (h1 : l.length < 4611686018427387904) : callL E f [.sl 0] [some (.arr e 1 (l.map rI))] = some (.tup [], [some (.arr e 1 ((sortI l).map rI))]) := callX (g := extSortI) he (by
  have e1 : decL decI (l.map rI) = some l := decL_map (f := decI) (e := rI) (fun _ => rfl) l
  have e2 : decide ((l.map rI).length < 4611686018427387904) = true := decide_eq_true (by rw [List.length_map]; exact h1)
  show (match decL decI (l.map rI), Nat.beq e U8, Nat.beq 1 1, decide ((l.map rI).length < 4611686018427387904) with
    | some zs, false, true, true => some (V.tup [], [some (Root.arr e 1 ((sortI zs).map eI))])
    | _, _, _, _ => none) = _
  rw [e1, h0, e2]
  rfl)
theorem f_sortS {f e : Nat} {l : List ByteArray} (he : Go.Proofs.YtdcgngeepbbikaaE.look E.ext f = some extSortS) (h0 : Nat.beq e U8 = false) (h1 : l.length < 4611686018427387904) : callL E f [.sl 0] [some (.arr e 1 (l.map rS))] = some (.tup [], [some (.arr e 1 ((sortS l).map rS))]) := callX (g := extSortS) he (by
  have e1 : decL decS (l.map rS) = some l := decL_map (f := decS) (e := rS) (fun _ => rfl) l
  have e2 : decide ((l.map rS).length < 4611686018427387904) = true := decide_eq_true (by rw [List.length_map]; exact h1)
  show (match decL decS (l.map rS), Nat.beq e U8, Nat.beq 1 1, decide ((l.map rS).length < 4611686018427387904) with
    | some zs, false, true, true => some (V.tup [], [some (Root.arr e 1 ((sortS zs).map eS))])
    | _, _, _, _ => none) = _
  rw [e1, h0, e2]
  rfl)

structure Sl00Src where
  Code : List Int
  At : Int
  Seed : Int
def rSl00Src (x : Sl00Src) : List D := [.arr (x.Code.map rU), dI x.At, .lit (.int .u64 x.Seed)]
theorem rSl00Src_len : ∀ x, (rSl00Src x).length = 3 := fun _ => rfl

noncomputable def p_spec_l00From (a_0 : List Int) : Option Sl00Src :=
  some (⟨a_0, 0, 0⟩ : Sl00Src)

set_option maxHeartbeats 4000000 in
theorem L_spec_l00From (a_0 : List Int) {r : Sl00Src} (h : p_spec_l00From a_0 = some r) : callL E 79 [.d (.arr (a_0.map rU))] ([] : Fo) = some (.bp 0 0, ([some (.box [.d (.arr (r.Code.map rU)), IN r.At, .d (.lit (.int .u64 r.Seed))])] : Fo)) := by
  unfold p_spec_l00From at h
  refine callW (fu := Try.f79) rfl rfl rfl NN ?_
  intro lp cl hlp hcl
  conv => lhs; whnf
  obtain rfl := Option.some.inj h; show _ = _; kernel_rfl


noncomputable def p_spec_l00Src_next (a_0 : Sl00Src) : Option (Int × Sl00Src) :=
  if a_0.At < (a_0.Code.length : Int) then
    getK a_0.Code a_0.At fun x2 =>
    if (IntKind.i64.wrap (a_0.At + 1)) ≤ (a_0.Code.length : Int) then
      some ((IntKind.i64.wrap x2), (⟨a_0.Code, (IntKind.i64.wrap (a_0.At + 1)), (IntKind.u64.wrap ((IntKind.u64.wrap ((IntKind.u64.wrap (a_0.Seed * 6364136223846793005)) + (IntKind.u64.wrap (IntKind.i64.wrap x2)))) + 1442695040888963407))⟩ : Sl00Src))
    else
      some ((IntKind.i64.wrap (andK .u64 (Int.fdiv (IntKind.u64.wrap ((IntKind.u64.wrap ((IntKind.u64.wrap (a_0.Seed * 6364136223846793005)) + (IntKind.u64.wrap (IntKind.i64.wrap x2)))) + 1442695040888963407)) (2 ^ (min (Int.toNat 40) IntKind.u64.bits))) 255)), (⟨a_0.Code, (IntKind.i64.wrap (a_0.At + 1)), (IntKind.u64.wrap ((IntKind.u64.wrap ((IntKind.u64.wrap (a_0.Seed * 6364136223846793005)) + (IntKind.u64.wrap (IntKind.i64.wrap x2)))) + 1442695040888963407))⟩ : Sl00Src))
  else
    if (IntKind.i64.wrap (a_0.At + 1)) ≤ (a_0.Code.length : Int) then
      some (0, (⟨a_0.Code, (IntKind.i64.wrap (a_0.At + 1)), (IntKind.u64.wrap ((IntKind.u64.wrap ((IntKind.u64.wrap (a_0.Seed * 6364136223846793005)) + (IntKind.u64.wrap 0))) + 1442695040888963407))⟩ : Sl00Src))
    else
      some ((IntKind.i64.wrap (andK .u64 (Int.fdiv (IntKind.u64.wrap ((IntKind.u64.wrap ((IntKind.u64.wrap (a_0.Seed * 6364136223846793005)) + (IntKind.u64.wrap 0))) + 1442695040888963407)) (2 ^ (min (Int.toNat 40) IntKind.u64.bits))) 255)), (⟨a_0.Code, (IntKind.i64.wrap (a_0.At + 1)), (IntKind.u64.wrap ((IntKind.u64.wrap ((IntKind.u64.wrap (a_0.Seed * 6364136223846793005)) + (IntKind.u64.wrap 0))) + 1442695040888963407))⟩ : Sl00Src))

set_option maxHeartbeats 4000000 in
theorem L_spec_l00Src_next (a_0 : Sl00Src) {r : (Int × Sl00Src)} (h : p_spec_l00Src_next a_0 = some r) : callL E 193 [.bp 0 0] ([some (.box [.d (.arr (a_0.Code.map rU)), IN a_0.At, .d (.lit (.int .u64 a_0.Seed))])] : Fo) = some (IN r.1, ([some (.box [.d (.arr (r.2.Code.map rU)), IN r.2.At, .d (.lit (.int .u64 r.2.Seed))])] : Fo)) := by
  unfold p_spec_l00Src_next at h
  refine callW (fu := Try.f193) rfl rfl rfl NN ?_
  intro lp cl hlp hcl
  conv => lhs; whnf
  try rw [len_of (l := a_0.Code) (r := rU)]
  cases hb1 : (decide (a_0.At < (a_0.Code.length : Int)))
  · replace h := ifF h (decF hb1); conv => lhs; whnf
    try rw [len_of (l := a_0.Code) (r := rU)]
    cases hb4 : (decide ((IntKind.i64.wrap (a_0.At + 1)) ≤ (a_0.Code.length : Int)))
    · replace h := ifF h (decF hb4); conv => lhs; whnf
      obtain rfl := Option.some.inj h; show _ = _; kernel_rfl

    · replace h := ifT h (decT hb4); conv => lhs; whnf
      obtain rfl := Option.some.inj h; show _ = _; kernel_rfl

  · replace h := ifT h (decT hb1); conv => lhs; whnf
    obtain ⟨x2, hq_x2, hx_x2', h⟩ := getK_inv h
    have hx_x2 := get_of (r := rU) hx_x2'
    try (rw [decide_eq_true hq_x2]; conv => lhs; whnf)
    rw [hx_x2]
    conv => lhs; whnf
    rw [hx_x2]
    conv => lhs; whnf
    try rw [len_of (l := a_0.Code) (r := rU)]
    cases hb3 : (decide ((IntKind.i64.wrap (a_0.At + 1)) ≤ (a_0.Code.length : Int)))
    · replace h := ifF h (decF hb3); conv => lhs; whnf
      obtain rfl := Option.some.inj h; show _ = _; kernel_rfl

    · replace h := ifT h (decT hb3); conv => lhs; whnf
      obtain rfl := Option.some.inj h; show _ = _; kernel_rfl


noncomputable def p_spec_l00Src_pick (a_0 : Int) (a_1 : Sl00Src) : Option (Int × Sl00Src) :=
  if a_0 ≤ 1 then
    some (0, a_1)
  else
    callK (p_spec_l00Src_next a_1) fun y2 =>
    if a_0 > 200 then
      callK (p_spec_l00Src_next y2.2) fun y4 =>
      grd (a_0 ≠ 0) <|
      some ((Int.tmod (IntKind.i64.wrap ((IntKind.i64.wrap (y2.1 * 256)) + y4.1)) a_0), y4.2)
    else
      grd (a_0 ≠ 0) <|
      some ((Int.tmod y2.1 a_0), y2.2)

set_option maxHeartbeats 4000000 in
theorem L_spec_l00Src_pick (a_0 : Int) (a_1 : Sl00Src) {r : (Int × Sl00Src)} (h : p_spec_l00Src_pick a_0 a_1 = some r) : callL E 101 [.bp 0 0, IN a_0] ([some (.box [.d (.arr (a_1.Code.map rU)), IN a_1.At, .d (.lit (.int .u64 a_1.Seed))])] : Fo) = some (IN r.1, ([some (.box [.d (.arr (r.2.Code.map rU)), IN r.2.At, .d (.lit (.int .u64 r.2.Seed))])] : Fo)) := by
  unfold p_spec_l00Src_pick at h
  refine callW (fu := Try.f101) rfl rfl rfl NN ?_
  intro lp cl hlp hcl
  conv => lhs; whnf
  cases hb1 : (decide (a_0 ≤ 1))
  · replace h := ifF h (decF hb1); conv => lhs; whnf
    obtain ⟨y2, h_y2, h⟩ := callK_inv h
    rw [cl_eq hcl (L_spec_l00Src_next a_1 h_y2)]
    rotate_left
    · show _ = _; kernel_rfl
    · show _ = _; kernel_rfl
    conv => lhs; whnf
    cases hb3 : (decide (a_0 > 200))
    · replace h := ifF h (decF hb3); conv => lhs; whnf
      obtain ⟨hg5, h⟩ := grd_inv h
      rw [rem_run _ _ _ _ hg5]
      conv => lhs; whnf
      obtain rfl := Option.some.inj h; show _ = _; kernel_rfl

    · replace h := ifT h (decT hb3); conv => lhs; whnf
      obtain ⟨y4, h_y4, h⟩ := callK_inv h
      rw [cl_eq hcl (L_spec_l00Src_next y2.2 h_y4)]
      rotate_left
      · show _ = _; kernel_rfl
      · show _ = _; kernel_rfl
      conv => lhs; whnf
      obtain ⟨hg6, h⟩ := grd_inv h
      rw [rem_run _ _ _ _ hg6]
      conv => lhs; whnf
      obtain rfl := Option.some.inj h; show _ = _; kernel_rfl

  · replace h := ifT h (decT hb1); conv => lhs; whnf
    obtain rfl := Option.some.inj h; show _ = _; kernel_rfl

/-- A source of choices from which as many may still be drawn. -/
structure SrcOk (b : Int) (s : Sl00Src) : Prop where
  code : ∀ x ∈ s.Code, 0 ≤ x ∧ x ≤ 255
  len : s.Code.length ≤ 1048576
  lo : 0 ≤ s.At
  hi : s.At + b ≤ 4611686018427387904
theorem SrcOk.le {b c : Int} {s : Sl00Src} (h : SrcOk b s) (hc : c ≤ b) : SrcOk c s := ⟨h.1, h.2, h.3, by have := h.4; omega⟩
theorem nxV_in (sd : Int) : 0 ≤ IntKind.i64.wrap (andK .u64 sd 255) ∧ IntKind.i64.wrap (andK .u64 sd 255) ≤ 255 := by
  unfold andK
  generalize BitVec.ofInt IntKind.u64.bits sd = a
  have h1 : (a &&& BitVec.ofInt IntKind.u64.bits 255).toNat ≤ 255 := by
    rw [BitVec.toNat_and]
    exact Nat.le_trans Nat.and_le_right (by decide)
  generalize (a &&& BitVec.ofInt IntKind.u64.bits 255).toNat = m at h1
  have e1 : IntKind.u64.wrap (m : Int) = m := by unfold IntKind.wrap; simp [IntKind.signed, IntKind.bits]; omega
  rw [e1, wrap_sm _ (by omega) (by omega)]
  omega
theorem next_ok {b : Int} {s : Sl00Src} (hb : 0 ≤ b) (h : SrcOk (b + 1) s) : ∃ v s', p_spec_l00Src_next s = some (v, s') ∧ (0 ≤ v ∧ v ≤ 255) ∧ SrcOk b s' := by
  obtain ⟨h1, h2, h3, h4⟩ := h
  have hw : IntKind.i64.wrap (s.At + 1) = s.At + 1 := wrap_sm _ (by omega) (by omega)
  unfold p_spec_l00Src_next
  rw [hw]
  split
  · rename_i hlt
    rw [getK_in h3 hlt]
    have hb := h1 _ (List.getElem_mem (show s.At.toNat < s.Code.length by omega))
    rw [if_pos (by omega)]
    exact ⟨_, _, rfl, by rw [wrap_sm _ (by omega) (by omega)]; exact hb, h1, h2, by show 0 ≤ s.At + 1; omega, by show s.At + 1 + b ≤ _; omega⟩
  · rename_i hlt
    rw [if_neg (by omega)]
    exact ⟨_, _, rfl, nxV_in _, h1, h2, by show 0 ≤ s.At + 1; omega, by show s.At + 1 + b ≤ _; omega⟩
theorem pick_ok {b : Int} {s : Sl00Src} (m : Int) (hb : 0 ≤ b) (h : SrcOk (b + 2) s) : ∃ r s', p_spec_l00Src_pick m s = some (r, s') ∧ (0 ≤ r ∧ (1 < m → r < m) ∧ (m ≤ 1 → r = 0)) ∧ SrcOk b s' := by
  unfold p_spec_l00Src_pick
  split
  · rename_i hm
    exact ⟨0, s, rfl, ⟨by omega, fun h => by omega, fun _ => rfl⟩, h.le (by omega)⟩
  · rename_i hm
    obtain ⟨v1, s1, e1, b1, o1⟩ := next_ok (b := b + 1) (by omega) (h.le (by omega))
    rw [e1, callK_some]
    split
    · obtain ⟨v2, s2, e2, b2, o2⟩ := next_ok hb o1
      rw [e2, callK_some, grd_pos (by omega)]
      have w1 : IntKind.i64.wrap (v1 * 256) = v1 * 256 := wrap_sm _ (by omega) (by omega)
      have w2 : IntKind.i64.wrap (v1 * 256 + v2) = v1 * 256 + v2 := wrap_sm _ (by omega) (by omega)
      refine ⟨_, _, rfl, ?_, o2⟩
      show 0 ≤ Int.tmod (IntKind.i64.wrap (IntKind.i64.wrap (v1 * 256) + v2)) m ∧ _
      rw [w1, w2]
      exact ⟨Int.tmod_nonneg _ (by omega), fun _ => Int.tmod_lt_of_pos _ (by omega), fun h3 => by omega⟩
    · rw [grd_pos (by omega)]
      exact ⟨_, _, rfl, ⟨Int.tmod_nonneg _ b1.1, fun _ => Int.tmod_lt_of_pos _ (by omega), fun h3 => by omega⟩, o1.le (by omega)⟩
theorem from_ok {code : List Int} (h : ∀ x ∈ code, 0 ≤ x ∧ x ≤ 255) (hl : code.length ≤ 1048576) : ∃ s, p_spec_l00From code = some s ∧ SrcOk 1099511627776 s :=
  ⟨_, rfl, h, hl, by show (0 : Int) ≤ 0; omega, by show (0 : Int) + 1099511627776 ≤ _; omega⟩

noncomputable def p_spec_l00Src_one (a_0 : Int) (a_1 : Sl00Src) : Option (Bool × Sl00Src) :=
  callK (p_spec_l00Src_pick a_0 a_1) fun y1 =>
  some ((y1.1 == 0), y1.2)

set_option maxHeartbeats 4000000 in
theorem L_spec_l00Src_one (a_0 : Int) (a_1 : Sl00Src) {r : (Bool × Sl00Src)} (h : p_spec_l00Src_one a_0 a_1 = some r) : callL E 199 [.bp 0 0, IN a_0] ([some (.box [.d (.arr (a_1.Code.map rU)), IN a_1.At, .d (.lit (.int .u64 a_1.Seed))])] : Fo) = some (BO r.1, ([some (.box [.d (.arr (r.2.Code.map rU)), IN r.2.At, .d (.lit (.int .u64 r.2.Seed))])] : Fo)) := by
  unfold p_spec_l00Src_one at h
  refine callW (fu := Try.f199) rfl rfl rfl NN ?_
  intro lp cl hlp hcl
  conv => lhs; whnf
  obtain ⟨y1, h_y1, h⟩ := callK_inv h
  rw [cl_eq hcl (L_spec_l00Src_pick a_0 a_1 h_y1)]
  rotate_left
  · show _ = _; kernel_rfl
  · show _ = _; kernel_rfl
  conv => lhs; whnf
  obtain rfl := Option.some.inj h; show _ = _; kernel_rfl

theorem one_ok {b : Int} {s : Sl00Src} (m : Int) (hb : 0 ≤ b) (h : SrcOk (b + 2) s) : ∃ r s', p_spec_l00Src_one m s = some (r, s') ∧ SrcOk b s' := by
  obtain ⟨r, s1, e1, _, o1⟩ := pick_ok m hb h
  unfold p_spec_l00Src_one
  rw [e1, callK_some]
  exact ⟨_, _, rfl, o1⟩

noncomputable def p_spec_l00Src_text (a_0 : List ByteArray) (a_1 : Sl00Src) : Option (ByteArray × Sl00Src) :=
  callK (p_spec_l00Src_pick (a_0.length : Int) a_1) fun y1 =>
  getK a_0 y1.1 fun x2 =>
  some (x2, y1.2)

set_option maxHeartbeats 4000000 in
theorem L_spec_l00Src_text (a_0 : List ByteArray) (a_1 : Sl00Src) {r : (ByteArray × Sl00Src)} (h : p_spec_l00Src_text a_0 a_1 = some r) : callL E 194 [.bp 0 0, .d (.arr (a_0.map rS))] ([some (.box [.d (.arr (a_1.Code.map rU)), IN a_1.At, .d (.lit (.int .u64 a_1.Seed))])] : Fo) = some (ST r.1, ([some (.box [.d (.arr (r.2.Code.map rU)), IN r.2.At, .d (.lit (.int .u64 r.2.Seed))])] : Fo)) := by
  unfold p_spec_l00Src_text at h
  refine callW (fu := Try.f194) rfl rfl rfl NN ?_
  intro lp cl hlp hcl
  conv => lhs; whnf
  try rw [len_of (l := a_0) (r := rS)]
  obtain ⟨y1, h_y1, h⟩ := callK_inv h
  rw [cl_eq hcl (L_spec_l00Src_pick (a_0.length : Int) a_1 h_y1)]
  rotate_left
  · show _ = _; kernel_rfl
  · show _ = _; kernel_rfl
  conv => lhs; whnf
  obtain ⟨x2, hq_x2, hx_x2', h⟩ := getK_inv h
  have hx_x2 := get_of (r := rS) hx_x2'
  try (rw [decide_eq_true hq_x2]; conv => lhs; whnf)
  rw [hx_x2]
  conv => lhs; whnf
  rw [hx_x2]
  conv => lhs; whnf
  obtain rfl := Option.some.inj h; show _ = _; kernel_rfl


noncomputable def p_spec_l17DrawKey (a_0 : Sl00Src) : Option (ByteArray × Sl00Src) :=
  callK (p_spec_l00Src_text ([(⟨#[97]⟩ : ByteArray), (⟨#[98]⟩ : ByteArray), (⟨#[99]⟩ : ByteArray), (⟨#[100]⟩ : ByteArray), (⟨#[101]⟩ : ByteArray), (⟨#[97, 98]⟩ : ByteArray), (⟨#[98, 49]⟩ : ByteArray), (⟨#[107, 101, 121, 56, 98, 121, 116, 101]⟩ : ByteArray), (⟨#[0]⟩ : ByteArray), (⟨#[255, 255]⟩ : ByteArray)] : List ByteArray) a_0) fun y1 =>
  some (y1.1, y1.2)

set_option maxHeartbeats 4000000 in
theorem L_spec_l17DrawKey (a_0 : Sl00Src) {r : (ByteArray × Sl00Src)} (h : p_spec_l17DrawKey a_0 = some r) : callL E 145 [.bp 0 0] ([some (.box [.d (.arr (a_0.Code.map rU)), IN a_0.At, .d (.lit (.int .u64 a_0.Seed))])] : Fo) = some (ST r.1, ([some (.box [.d (.arr (r.2.Code.map rU)), IN r.2.At, .d (.lit (.int .u64 r.2.Seed))])] : Fo)) := by
  unfold p_spec_l17DrawKey at h
  refine callW (fu := Try.f145) rfl rfl rfl NN ?_
  intro lp cl hlp hcl
  conv => lhs; whnf
  obtain ⟨y1, h_y1, h⟩ := callK_inv h
  rw [cl_eq hcl (L_spec_l00Src_text ([(⟨#[97]⟩ : ByteArray), (⟨#[98]⟩ : ByteArray), (⟨#[99]⟩ : ByteArray), (⟨#[100]⟩ : ByteArray), (⟨#[101]⟩ : ByteArray), (⟨#[97, 98]⟩ : ByteArray), (⟨#[98, 49]⟩ : ByteArray), (⟨#[107, 101, 121, 56, 98, 121, 116, 101]⟩ : ByteArray), (⟨#[0]⟩ : ByteArray), (⟨#[255, 255]⟩ : ByteArray)] : List ByteArray) a_0 h_y1)]
  rotate_left
  · show _ = _; kernel_rfl
  · show _ = _; kernel_rfl
  conv => lhs; whnf
  obtain rfl := Option.some.inj h; show _ = _; kernel_rfl


noncomputable def p_spec_l00Src_among (a_0 : List Int) (a_1 : Sl00Src) : Option (Int × Sl00Src) :=
  callK (p_spec_l00Src_pick (a_0.length : Int) a_1) fun y1 =>
  getK a_0 y1.1 fun x2 =>
  some (x2, y1.2)

set_option maxHeartbeats 4000000 in
theorem L_spec_l00Src_among (a_0 : List Int) (a_1 : Sl00Src) {r : (Int × Sl00Src)} (h : p_spec_l00Src_among a_0 a_1 = some r) : callL E 161 [.bp 0 0, .d (.arr (a_0.map rI))] ([some (.box [.d (.arr (a_1.Code.map rU)), IN a_1.At, .d (.lit (.int .u64 a_1.Seed))])] : Fo) = some (IN r.1, ([some (.box [.d (.arr (r.2.Code.map rU)), IN r.2.At, .d (.lit (.int .u64 r.2.Seed))])] : Fo)) := by
  unfold p_spec_l00Src_among at h
  refine callW (fu := Try.f161) rfl rfl rfl NN ?_
  intro lp cl hlp hcl
  conv => lhs; whnf
  try rw [len_of (l := a_0) (r := rI)]
  obtain ⟨y1, h_y1, h⟩ := callK_inv h
  rw [cl_eq hcl (L_spec_l00Src_pick (a_0.length : Int) a_1 h_y1)]
  rotate_left
  · show _ = _; kernel_rfl
  · show _ = _; kernel_rfl
  conv => lhs; whnf
  obtain ⟨x2, hq_x2, hx_x2', h⟩ := getK_inv h
  have hx_x2 := get_of (r := rI) hx_x2'
  try (rw [decide_eq_true hq_x2]; conv => lhs; whnf)
  rw [hx_x2]
  conv => lhs; whnf
  rw [hx_x2]
  conv => lhs; whnf
  obtain rfl := Option.some.inj h; show _ = _; kernel_rfl


noncomputable def p_spec_l17Draw (a_0 : Int) (a_1 : Sl00Src) : Option (Record × Sl00Src) :=
  callK (p_spec_l17DrawKey a_1) fun y1 =>
  callK (p_spec_l00Src_among ([1, 1, 1, 2, 3] : List Int) y1.2) fun y2 =>
  if y2.1 = 1 then
    callK (p_spec_l00Src_text ([(⟨#[]⟩ : ByteArray), (⟨#[49]⟩ : ByteArray), (⟨#[116, 119, 111]⟩ : ByteArray), (⟨#[115, 105, 120, 116, 101, 101, 110, 32, 98, 121, 116, 101, 115, 32, 111, 107]⟩ : ByteArray), (⟨#[0]⟩ : ByteArray)] : List ByteArray) y2.2) fun y4 =>
    some ((⟨y1.1, a_0, y2.1, y4.1, (⟨#[]⟩ : ByteArray)⟩ : Record), y4.2)
  else
    if y2.1 = 3 then
      callK (p_spec_l00Src_text ([(⟨#[97]⟩ : ByteArray), (⟨#[98]⟩ : ByteArray), (⟨#[97, 98]⟩ : ByteArray), (⟨#[99]⟩ : ByteArray)] : List ByteArray) y2.2) fun y6 =>
      callK (p_spec_l00Src_text ([(⟨#[100]⟩ : ByteArray), (⟨#[101]⟩ : ByteArray), (⟨#[98, 49, 0]⟩ : ByteArray), (⟨#[255]⟩ : ByteArray)] : List ByteArray) y6.2) fun y7 =>
      if (Op.bytesLess y6.1.toList y7.1.toList) = true then
        some ((⟨y6.1, a_0, y2.1, (⟨#[]⟩ : ByteArray), y7.1⟩ : Record), y7.2)
      else
        some ((⟨y6.1, a_0, y2.1, (⟨#[]⟩ : ByteArray), (⟨#[255]⟩ : ByteArray)⟩ : Record), y7.2)
    else
      some ((⟨y1.1, a_0, y2.1, (⟨#[]⟩ : ByteArray), (⟨#[]⟩ : ByteArray)⟩ : Record), y2.2)

set_option maxHeartbeats 4000000 in
theorem L_spec_l17Draw (a_0 : Int) (a_1 : Sl00Src) {r : (Record × Sl00Src)} (h : p_spec_l17Draw a_0 a_1 = some r) : callL E 102 [.bp 0 0, IN a_0] ([some (.box [.d (.arr (a_1.Code.map rU)), IN a_1.At, .d (.lit (.int .u64 a_1.Seed))])] : Fo) = some (.agg [ST r.1.Key, IN r.1.Seq, IN r.1.Kind, ST r.1.Value, ST r.1.End], ([some (.box [.d (.arr (r.2.Code.map rU)), IN r.2.At, .d (.lit (.int .u64 r.2.Seed))])] : Fo)) := by
  unfold p_spec_l17Draw at h
  refine callW (fu := Try.f102) rfl rfl rfl NN ?_
  intro lp cl hlp hcl
  conv => lhs; whnf
  obtain ⟨y1, h_y1, h⟩ := callK_inv h
  rw [cl_eq hcl (L_spec_l17DrawKey a_1 h_y1)]
  rotate_left
  · show _ = _; kernel_rfl
  · show _ = _; kernel_rfl
  conv => lhs; whnf
  obtain ⟨y2, h_y2, h⟩ := callK_inv h
  rw [cl_eq hcl (L_spec_l00Src_among ([1, 1, 1, 2, 3] : List Int) y1.2 h_y2)]
  rotate_left
  · show _ = _; kernel_rfl
  · show _ = _; kernel_rfl
  conv => lhs; whnf
  cases hb3 : (y2.1 == 1)
  · replace h := ifF h (beqF hb3); conv => lhs; whnf
    cases hb5 : (y2.1 == 3)
    · replace h := ifF h (beqF hb5); conv => lhs; whnf
      obtain rfl := Option.some.inj h; show _ = _; kernel_rfl

    · replace h := ifT h (beqT hb5); conv => lhs; whnf
      obtain ⟨y6, h_y6, h⟩ := callK_inv h
      rw [cl_eq hcl (L_spec_l00Src_text ([(⟨#[97]⟩ : ByteArray), (⟨#[98]⟩ : ByteArray), (⟨#[97, 98]⟩ : ByteArray), (⟨#[99]⟩ : ByteArray)] : List ByteArray) y2.2 h_y6)]
      rotate_left
      · show _ = _; kernel_rfl
      · show _ = _; kernel_rfl
      conv => lhs; whnf
      obtain ⟨y7, h_y7, h⟩ := callK_inv h
      rw [cl_eq hcl (L_spec_l00Src_text ([(⟨#[100]⟩ : ByteArray), (⟨#[101]⟩ : ByteArray), (⟨#[98, 49, 0]⟩ : ByteArray), (⟨#[255]⟩ : ByteArray)] : List ByteArray) y6.2 h_y7)]
      rotate_left
      · show _ = _; kernel_rfl
      · show _ = _; kernel_rfl
      conv => lhs; whnf
      cases hb8 : (Op.bytesLess y6.1.toList y7.1.toList)
      · replace h := ifF h (booF hb8); conv => lhs; whnf
        obtain rfl := Option.some.inj h; show _ = _; kernel_rfl

      · replace h := ifT h hb8; conv => lhs; whnf
        obtain rfl := Option.some.inj h; show _ = _; kernel_rfl

  · replace h := ifT h (beqT hb3); conv => lhs; whnf
    obtain ⟨y4, h_y4, h⟩ := callK_inv h
    rw [cl_eq hcl (L_spec_l00Src_text ([(⟨#[]⟩ : ByteArray), (⟨#[49]⟩ : ByteArray), (⟨#[116, 119, 111]⟩ : ByteArray), (⟨#[115, 105, 120, 116, 101, 101, 110, 32, 98, 121, 116, 101, 115, 32, 111, 107]⟩ : ByteArray), (⟨#[0]⟩ : ByteArray)] : List ByteArray) y2.2 h_y4)]
    rotate_left
    · show _ = _; kernel_rfl
    · show _ = _; kernel_rfl
    conv => lhs; whnf
    obtain rfl := Option.some.inj h; show _ = _; kernel_rfl


noncomputable def p_spec_l17Less (a_0 : Record) (a_1 : Record) : Option Bool :=
  if (a_0.Key.toList == a_1.Key.toList) = true then
    if ¬ a_0.Seq = a_1.Seq then
      some (decide (a_0.Seq > a_1.Seq))
    else
      if ¬ a_0.Kind = a_1.Kind then
        some (decide (a_0.Kind < a_1.Kind))
      else
        if (a_0.Value.toList == a_1.Value.toList) = true then
          some (Op.bytesLess a_0.End.toList a_1.End.toList)
        else
          some (Op.bytesLess a_0.Value.toList a_1.Value.toList)
  else
    some (Op.bytesLess a_0.Key.toList a_1.Key.toList)

set_option maxHeartbeats 4000000 in
theorem L_spec_l17Less (a_0 : Record) (a_1 : Record) {r : Bool} (h : p_spec_l17Less a_0 a_1 = some r) : callL E 112 [.agg [ST a_0.Key, IN a_0.Seq, IN a_0.Kind, ST a_0.Value, ST a_0.End], .agg [ST a_1.Key, IN a_1.Seq, IN a_1.Kind, ST a_1.Value, ST a_1.End]] ([] : Fo) = some (BO r, ([] : Fo)) := by
  unfold p_spec_l17Less at h
  refine callW (fu := Try.f112) rfl rfl rfl NN ?_
  intro lp cl hlp hcl
  conv => lhs; whnf
  cases hb1 : (a_0.Key.toList == a_1.Key.toList)
  · replace h := ifF h (booF hb1); conv => lhs; whnf
    obtain rfl := Option.some.inj h; show _ = _; kernel_rfl

  · replace h := ifT h hb1; conv => lhs; whnf
    cases hb2 : (a_0.Seq != a_1.Seq)
    · replace h := ifF h ((fun h => not_not_intro (bneF h)) hb2); conv => lhs; whnf
      cases hb3 : (a_0.Kind != a_1.Kind)
      · replace h := ifF h ((fun h => not_not_intro (bneF h)) hb3); conv => lhs; whnf
        cases hb4 : (a_0.Value.toList == a_1.Value.toList)
        · replace h := ifF h (booF hb4); conv => lhs; whnf
          obtain rfl := Option.some.inj h; show _ = _; kernel_rfl

        · replace h := ifT h hb4; conv => lhs; whnf
          obtain rfl := Option.some.inj h; show _ = _; kernel_rfl

      · replace h := ifT h (bneT hb3); conv => lhs; whnf
        obtain rfl := Option.some.inj h; show _ = _; kernel_rfl

    · replace h := ifT h (bneT hb2); conv => lhs; whnf
      obtain rfl := Option.some.inj h; show _ = _; kernel_rfl


noncomputable def p_spec_l17Into (a_0 : List Record) (a_1 : Record) : Option (List Record) :=
  grd (a_0.length < 4611686018427387904) <|
  forK a_0 (fun (i6 : Nat) x8 (_ : Unit) (nx7 : Unit → Option _) =>
    callK (p_spec_l17Less x8 a_1) fun y9 =>
    if y9 = true then
      nx7 ()
    else
      if ((x8.Key.toList == a_1.Key.toList) && ((x8.Seq == a_1.Seq) && ((x8.Kind == a_1.Kind) && ((x8.Value.toList == a_1.Value.toList) && ((x8.End.toList == a_1.End.toList) && true))))) = true then
        some a_0
      else
        grd (0 ≤ 0 ∧ 0 ≤ (i6 : Int) ∧ (i6 : Int) ≤ (a_0.length : Int)) <|
        grd (appOk (0 + ((a_0.drop (Int.toNat 0)).take (Int.toNat (i6 : Int) - Int.toNat 0)).length) 64 = true) <|
        grd (appOk (((a_0.drop (Int.toNat 0)).take (Int.toNat (i6 : Int) - Int.toNat 0)).length + 1) 64 = true) <|
        grd (0 ≤ (i6 : Int) ∧ (i6 : Int) ≤ (a_0.length : Int) ∧ (a_0.length : Int) ≤ (a_0.length : Int)) <|
        grd (appOk ((((a_0.drop (Int.toNat 0)).take (Int.toNat (i6 : Int) - Int.toNat 0)) ++ ([a_1] : List Record)).length + ((a_0.drop (Int.toNat (i6 : Int))).take (Int.toNat (a_0.length : Int) - Int.toNat (i6 : Int))).length) 64 = true) <|
        some ((((a_0.drop (Int.toNat 0)).take (Int.toNat (i6 : Int) - Int.toNat 0)) ++ ([a_1] : List Record)) ++ ((a_0.drop (Int.toNat (i6 : Int))).take (Int.toNat (a_0.length : Int) - Int.toNat (i6 : Int))))) () (fun (_ : Unit) =>
    grd (0 ≤ 0 ∧ 0 ≤ (a_0.length : Int) ∧ (a_0.length : Int) ≤ (a_0.length : Int)) <|
    grd (appOk (0 + ((a_0.drop (Int.toNat 0)).take (Int.toNat (a_0.length : Int) - Int.toNat 0)).length) 64 = true) <|
    grd (appOk (((a_0.drop (Int.toNat 0)).take (Int.toNat (a_0.length : Int) - Int.toNat 0)).length + 1) 64 = true) <|
    grd (0 ≤ (a_0.length : Int) ∧ (a_0.length : Int) ≤ (a_0.length : Int) ∧ (a_0.length : Int) ≤ (a_0.length : Int)) <|
    grd (appOk ((((a_0.drop (Int.toNat 0)).take (Int.toNat (a_0.length : Int) - Int.toNat 0)) ++ ([a_1] : List Record)).length + ((a_0.drop (Int.toNat (a_0.length : Int))).take (Int.toNat (a_0.length : Int) - Int.toNat (a_0.length : Int))).length) 64 = true) <|
    some ((((a_0.drop (Int.toNat 0)).take (Int.toNat (a_0.length : Int) - Int.toNat 0)) ++ ([a_1] : List Record)) ++ ((a_0.drop (Int.toNat (a_0.length : Int))).take (Int.toNat (a_0.length : Int) - Int.toNat (a_0.length : Int)))))

set_option maxHeartbeats 4000000 in
theorem L_spec_l17Into (a_0 : List Record) (a_1 : Record) {r : (List Record)} (h : p_spec_l17Into a_0 a_1 = some r) : callL E 206 [.d (.arr (a_0.map rRecord)), .agg [ST a_1.Key, IN a_1.Seq, IN a_1.Kind, ST a_1.Value, ST a_1.End]] ([] : Fo) = some (.d (.arr (r.map rRecord)), ([] : Fo)) := by
  unfold p_spec_l17Into at h
  refine callW (fu := Try.f206) rfl rfl rfl NN ?_
  intro lp cl hlp hcl
  conv => lhs; whnf
  obtain ⟨hl_i6, h⟩ := grd_inv h
  refine loop_for hlp (l := a_0) hl_i6 (fun (i6 : Nat) (_ : Unit) => ([.d (.arr (a_0.map rRecord)), .dead, .dead, .bp 0 0, .dead, IN (i6 : Int)] ++ List.replicate 42 .dead : List V)) (fun (i6 : Nat) (_ : Unit) => ([some (.box [ST a_1.Key, IN a_1.Seq, IN a_1.Kind, ST a_1.Value, ST a_1.End])] : Fo)) (fun (r : (List Record)) => ((.d (.arr (r.map rRecord)) : V), ([] : Fo))) ?_ ?_ () _ (fun kk => by kernel_rfl) h
  · clear h
    rintro next_nx7 nx7 i6 hi_i6 hnx7 ⟨⟩ r h
    try dsimp only at h
    have hn_i6 : i6 < 4611686018427387904 := by omega
    have hx_x8 := get_map rRecord a_0 i6 hi_i6
    generalize a_0[i6] = x8 at h hx_x8
    have hd_i6 : (decide ((i6 : Int) < (a_0.length : Int))) = true := decide_eq_true (by omega)
    conv => lhs; whnf
    try rw [len_of (l := a_0) (r := rRecord)]
    try (first | rw [hd_i6] | (split; (first | (rename_i hx; exact absurd (hd_i6.symm.trans hx) (by decide)) | (rotate_left; rename_i hx; exact absurd (hd_i6.symm.trans hx) (by decide)))))
    conv => lhs; whnf
    try (rw [hd_i6]; conv => lhs; whnf)
    try (rw [hd_i6]; conv => lhs; whnf)
    try (rw [decide_eq_true hq_x8]; conv => lhs; whnf)
    rw [hx_x8]
    conv => lhs; whnf
    try (rw [hd_i6]; conv => lhs; whnf)
    rw [hx_x8]
    conv => lhs; whnf
    try (rw [hd_i6]; conv => lhs; whnf)
    try (rw [hd_i6]; conv => lhs; whnf)
    obtain ⟨y9, h_y9, h⟩ := callK_inv h
    rw [cl_eq hcl (L_spec_l17Less x8 a_1 h_y9)]
    rotate_left
    · show _ = _; kernel_rfl
    · show _ = _; kernel_rfl
    conv => lhs; whnf
    try (rw [hd_i6]; conv => lhs; whnf)
    cases hb10 : y9
    · replace h := ifF h (booF hb10); conv => lhs; whnf
      try rw [len_of (l := a_0) (r := rRecord)]
      try (rw [hd_i6]; conv => lhs; whnf)
      try (rw [hd_i6]; conv => lhs; whnf)
      try (rw [hd_i6]; conv => lhs; whnf)
      try (rw [decide_eq_true hq_x8]; conv => lhs; whnf)
      rw [hx_x8]
      conv => lhs; whnf
      try (rw [hd_i6]; conv => lhs; whnf)
      rw [hx_x8]
      conv => lhs; whnf
      try (rw [hd_i6]; conv => lhs; whnf)
      try (rw [hd_i6]; conv => lhs; whnf)
      try (rw [hd_i6]; conv => lhs; whnf)
      cases hb11 : ((x8.Key.toList == a_1.Key.toList) && ((x8.Seq == a_1.Seq) && ((x8.Kind == a_1.Kind) && ((x8.Value.toList == a_1.Value.toList) && ((x8.End.toList == a_1.End.toList) && true)))))
      · replace h := ifF h (booF hb11); conv => lhs; whnf
        obtain ⟨hg12, h⟩ := grd_inv h
        try (rw [allLen_map rRecord _ rRecord_len]; conv => lhs; whnf)
        try rw [List.length_map]
        try (rw [decide_eq_true hg12.1]; conv => lhs; whnf)
        try (rw [decide_eq_true hg12.2.1]; conv => lhs; whnf)
        try (rw [decide_eq_true hg12.2.2])
        conv => lhs; whnf
        try rw [cut_of (r := rRecord) (l := a_0)]
        obtain ⟨hg13, h⟩ := grd_inv h
        rw [app_eq hg13 ?h1 ?h2]
        case h1 => first | exact rfl | (simp only [List.length_map, List.length_cons, List.length_nil]; done) | (rw [List.length_map]; rfl)
        case h2 => exact rfl
        conv => lhs; whnf
        rw [allLen_map rRecord _ rRecord_len]
        conv => lhs; whnf
        first | (rw [nil_app_of (r := rRecord) (m := ((a_0.drop (Int.toNat 0)).take (Int.toNat (i6 : Int) - Int.toNat 0))) ?hh]; case hh => exact rfl) | skip
        obtain ⟨hg14, h⟩ := grd_inv h
        rw [app_eq hg14 ?h1 ?h2]
        case h1 => first | exact rfl | (simp only [List.length_map, List.length_cons, List.length_nil]; done) | (rw [List.length_map]; rfl)
        case h2 => exact rfl
        conv => lhs; whnf
        first | (rw [map_app_of (r := rRecord) (l := ((a_0.drop (Int.toNat 0)).take (Int.toNat (i6 : Int) - Int.toNat 0))) (m := ([a_1] : List Record)) ?hh]; case hh => exact rfl) | skip
        obtain ⟨hg15, h⟩ := grd_inv h
        try (rw [allLen_map rRecord _ rRecord_len]; conv => lhs; whnf)
        try rw [List.length_map]
        try (rw [decide_eq_true hg15.1]; conv => lhs; whnf)
        try (rw [decide_eq_true hg15.2.1]; conv => lhs; whnf)
        try (rw [decide_eq_true hg15.2.2])
        conv => lhs; whnf
        try rw [cut_of (r := rRecord) (l := a_0)]
        obtain ⟨hg16, h⟩ := grd_inv h
        rw [app_eq hg16 ?h1 ?h2]
        case h1 => first | exact rfl | (simp only [List.length_map, List.length_cons, List.length_nil]; done) | (rw [List.length_map]; rfl)
        case h2 => exact rfl
        conv => lhs; whnf
        rw [allLen_map rRecord _ rRecord_len]
        conv => lhs; whnf
        first | (rw [map_app_of (r := rRecord) (l := (((a_0.drop (Int.toNat 0)).take (Int.toNat (i6 : Int) - Int.toNat 0)) ++ ([a_1] : List Record))) (m := ((a_0.drop (Int.toNat (i6 : Int))).take (Int.toNat (a_0.length : Int) - Int.toNat (i6 : Int)))) ?hh]; case hh => exact rfl) | skip
        obtain rfl := Option.some.inj h; show _ = _; kernel_rfl

      · replace h := ifT h hb11; conv => lhs; whnf
        obtain rfl := Option.some.inj h; show _ = _; kernel_rfl

    · replace h := ifT h hb10; conv => lhs; whnf
      rw [wrap_nat i6 (by have := hn_i6; omega)]
      exact hnx7 _ _ _ _ (fun kk => by kernel_rfl) h
  · clear h
    rintro next_nx7 ⟨⟩ r h
    try dsimp only at h
    have hd_i6 : (decide ((a_0.length : Int) < (a_0.length : Int))) = false := decide_eq_false (by omega)
    conv => lhs; whnf
    try rw [len_of (l := a_0) (r := rRecord)]
    try (first | rw [hd_i6] | (split; (first | (rename_i hx; exact absurd (hd_i6.symm.trans hx) (by decide)) | (rotate_left; rename_i hx; exact absurd (hd_i6.symm.trans hx) (by decide)))))
    conv => lhs; whnf
    try (rw [hd_i6]; conv => lhs; whnf)
    try (rw [hd_i6]; conv => lhs; whnf)
    try (rw [hd_i6]; conv => lhs; whnf)
    try (rw [hd_i6]; conv => lhs; whnf)
    try (rw [hd_i6]; conv => lhs; whnf)
    try (rw [hd_i6]; conv => lhs; whnf)
    try rw [len_of (l := a_0) (r := rRecord)]
    try (rw [hd_i6]; conv => lhs; whnf)
    try (rw [hd_i6]; conv => lhs; whnf)
    try (rw [hd_i6]; conv => lhs; whnf)
    try (rw [hd_i6]; conv => lhs; whnf)
    try (rw [hd_i6]; conv => lhs; whnf)
    try (rw [hd_i6]; conv => lhs; whnf)
    try (rw [hd_i6]; conv => lhs; whnf)
    obtain ⟨hg17, h⟩ := grd_inv h
    try (rw [allLen_map rRecord _ rRecord_len]; conv => lhs; whnf)
    try rw [List.length_map]
    try (rw [decide_eq_true hg17.1]; conv => lhs; whnf)
    try (rw [decide_eq_true hg17.2.1]; conv => lhs; whnf)
    try (rw [decide_eq_true hg17.2.2])
    conv => lhs; whnf
    try rw [cut_of (r := rRecord) (l := a_0)]
    obtain ⟨hg18, h⟩ := grd_inv h
    rw [app_eq hg18 ?h1 ?h2]
    case h1 => first | exact rfl | (simp only [List.length_map, List.length_cons, List.length_nil]; done) | (rw [List.length_map]; rfl)
    case h2 => exact rfl
    conv => lhs; whnf
    rw [allLen_map rRecord _ rRecord_len]
    conv => lhs; whnf
    first | (rw [nil_app_of (r := rRecord) (m := ((a_0.drop (Int.toNat 0)).take (Int.toNat (a_0.length : Int) - Int.toNat 0))) ?hh]; case hh => exact rfl) | skip
    obtain ⟨hg19, h⟩ := grd_inv h
    rw [app_eq hg19 ?h1 ?h2]
    case h1 => first | exact rfl | (simp only [List.length_map, List.length_cons, List.length_nil]; done) | (rw [List.length_map]; rfl)
    case h2 => exact rfl
    conv => lhs; whnf
    first | (rw [map_app_of (r := rRecord) (l := ((a_0.drop (Int.toNat 0)).take (Int.toNat (a_0.length : Int) - Int.toNat 0))) (m := ([a_1] : List Record)) ?hh]; case hh => exact rfl) | skip
    obtain ⟨hg20, h⟩ := grd_inv h
    try (rw [allLen_map rRecord _ rRecord_len]; conv => lhs; whnf)
    try rw [List.length_map]
    try (rw [decide_eq_true hg20.1]; conv => lhs; whnf)
    try (rw [decide_eq_true hg20.2.1]; conv => lhs; whnf)
    try (rw [decide_eq_true hg20.2.2])
    conv => lhs; whnf
    try rw [cut_of (r := rRecord) (l := a_0)]
    obtain ⟨hg21, h⟩ := grd_inv h
    rw [app_eq hg21 ?h1 ?h2]
    case h1 => first | exact rfl | (simp only [List.length_map, List.length_cons, List.length_nil]; done) | (rw [List.length_map]; rfl)
    case h2 => exact rfl
    conv => lhs; whnf
    rw [allLen_map rRecord _ rRecord_len]
    conv => lhs; whnf
    first | (rw [map_app_of (r := rRecord) (l := (((a_0.drop (Int.toNat 0)).take (Int.toNat (a_0.length : Int) - Int.toNat 0)) ++ ([a_1] : List Record))) (m := ((a_0.drop (Int.toNat (a_0.length : Int))).take (Int.toNat (a_0.length : Int) - Int.toNat (a_0.length : Int)))) ?hh]; case hh => exact rfl) | skip
    obtain rfl := Option.some.inj h; show _ = _; kernel_rfl


noncomputable def p_spec_l23Run (a_0 : Sl00Src) : Option ((List Record) × Sl00Src) :=
  callK (p_spec_l00Src_pick 7 a_0) fun y1 =>
  iterK (fun ((v2, v3, v4, v5) : ((List Record) × Int × Int × Sl00Src)) (nx6 : ((List Record) × Int × Int × Sl00Src) → Option _) =>
    if v4 > 0 then
      callK (p_spec_l00Src_pick 3 v5) fun y8 =>
      callK (p_spec_l17Draw (IntKind.i64.wrap (v3 + (IntKind.i64.wrap (1 + y8.1)))) y8.2) fun y9 =>
      callK (p_spec_l00Src_one 2 y9.2) fun y10 =>
      if y10.1 = true then
        callK (p_spec_l00Src_text ([(⟨#[97]⟩ : ByteArray), (⟨#[98]⟩ : ByteArray), (⟨#[99]⟩ : ByteArray)] : List ByteArray) y10.2) fun y12 =>
        callK (p_spec_l00Src_text ([(⟨#[100]⟩ : ByteArray), (⟨#[101]⟩ : ByteArray), (⟨#[102]⟩ : ByteArray)] : List ByteArray) y12.2) fun y13 =>
        callK (p_spec_l17Into v2 (⟨y12.1, (IntKind.i64.wrap (v3 + (IntKind.i64.wrap (1 + y8.1)))), 3, (⟨#[]⟩ : ByteArray), y13.1⟩ : Record)) fun y14 =>
        nx6 (y14, (IntKind.i64.wrap (v3 + (IntKind.i64.wrap (1 + y8.1)))), (IntKind.i64.wrap (v4 - 1)), y13.2)
      else
        callK (p_spec_l17Into v2 y9.1) fun y15 =>
        nx6 (y15, (IntKind.i64.wrap (v3 + (IntKind.i64.wrap (1 + y8.1)))), (IntKind.i64.wrap (v4 - 1)), y10.2)
    else
      some (v2, v5)) NN (([] : List Record), 0, y1.1, y1.2)

set_option maxHeartbeats 4000000 in
theorem L_spec_l23Run (a_0 : Sl00Src) {r : ((List Record) × Sl00Src)} (h : p_spec_l23Run a_0 = some r) : callL E 117 [.bp 0 0] ([some (.box [.d (.arr (a_0.Code.map rU)), IN a_0.At, .d (.lit (.int .u64 a_0.Seed))])] : Fo) = some (.d (.arr (r.1.map rRecord)), ([some (.box [.d (.arr (r.2.Code.map rU)), IN r.2.At, .d (.lit (.int .u64 r.2.Seed))])] : Fo)) := by
  unfold p_spec_l23Run at h
  refine callW (fu := Try.f117) rfl rfl rfl NN ?_
  intro lp cl hlp hcl
  conv => lhs; whnf
  obtain ⟨y1, h_y1, h⟩ := callK_inv h
  rw [cl_eq hcl (L_spec_l00Src_pick 7 a_0 h_y1)]
  rotate_left
  · show _ = _; kernel_rfl
  · show _ = _; kernel_rfl
  conv => lhs; whnf
  refine loop_iter hlp (fun ((v2, v3, v4, v5) : ((List Record) × Int × Int × Sl00Src)) => ([.bp 0 0, .dead, .dead, .d (.arr (v2.map rRecord)), IN v3, IN v4] ++ List.replicate 34 .dead : List V)) (fun ((v2, v3, v4, v5) : ((List Record) × Int × Int × Sl00Src)) => ([some (.box [.d (.arr (v5.Code.map rU)), IN v5.At, .d (.lit (.int .u64 v5.Seed))])] : Fo)) (fun (r : ((List Record) × Sl00Src)) => ((.d (.arr (r.1.map rRecord)) : V), ([some (.box [.d (.arr (r.2.Code.map rU)), IN r.2.At, .d (.lit (.int .u64 r.2.Seed))])] : Fo))) ?_ (([] : List Record), 0, y1.1, y1.2) _ (fun kk => by kernel_rfl) h
  clear h
  rintro next_nx6 nx6 hnx6 ⟨v2, v3, v4, v5⟩ r h
  try dsimp only at h
  conv => lhs; whnf
  cases hb7 : (decide (v4 > 0))
  · replace h := ifF h (decF hb7); conv => lhs; whnf
    obtain rfl := Option.some.inj h; show _ = _; kernel_rfl

  · replace h := ifT h (decT hb7); conv => lhs; whnf
    obtain ⟨y8, h_y8, h⟩ := callK_inv h
    rw [cl_eq hcl (L_spec_l00Src_pick 3 v5 h_y8)]
    rotate_left
    · show _ = _; kernel_rfl
    · show _ = _; kernel_rfl
    conv => lhs; whnf
    obtain ⟨y9, h_y9, h⟩ := callK_inv h
    rw [cl_eq hcl (L_spec_l17Draw (IntKind.i64.wrap (v3 + (IntKind.i64.wrap (1 + y8.1)))) y8.2 h_y9)]
    rotate_left
    · show _ = _; kernel_rfl
    · show _ = _; kernel_rfl
    conv => lhs; whnf
    obtain ⟨y10, h_y10, h⟩ := callK_inv h
    rw [cl_eq hcl (L_spec_l00Src_one 2 y9.2 h_y10)]
    rotate_left
    · show _ = _; kernel_rfl
    · show _ = _; kernel_rfl
    conv => lhs; whnf
    cases hb11 : y10.1
    · replace h := ifF h (booF hb11); conv => lhs; whnf
      obtain ⟨y15, h_y15, h⟩ := callK_inv h
      rw [cl_eq hcl (L_spec_l17Into v2 y9.1 h_y15)]
      rotate_left
      · show _ = _; kernel_rfl
      · show _ = _; kernel_rfl
      conv => lhs; whnf
      exact hnx6 _ _ _ _ (fun kk => by kernel_rfl) h
    · replace h := ifT h hb11; conv => lhs; whnf
      obtain ⟨y12, h_y12, h⟩ := callK_inv h
      rw [cl_eq hcl (L_spec_l00Src_text ([(⟨#[97]⟩ : ByteArray), (⟨#[98]⟩ : ByteArray), (⟨#[99]⟩ : ByteArray)] : List ByteArray) y10.2 h_y12)]
      rotate_left
      · show _ = _; kernel_rfl
      · show _ = _; kernel_rfl
      conv => lhs; whnf
      obtain ⟨y13, h_y13, h⟩ := callK_inv h
      rw [cl_eq hcl (L_spec_l00Src_text ([(⟨#[100]⟩ : ByteArray), (⟨#[101]⟩ : ByteArray), (⟨#[102]⟩ : ByteArray)] : List ByteArray) y12.2 h_y13)]
      rotate_left
      · show _ = _; kernel_rfl
      · show _ = _; kernel_rfl
      conv => lhs; whnf
      obtain ⟨y14, h_y14, h⟩ := callK_inv h
      rw [cl_eq hcl (L_spec_l17Into v2 (⟨y12.1, (IntKind.i64.wrap (v3 + (IntKind.i64.wrap (1 + y8.1)))), 3, (⟨#[]⟩ : ByteArray), y13.1⟩ : Record) h_y14)]
      rotate_left
      · show _ = _; kernel_rfl
      · show _ = _; kernel_rfl
      conv => lhs; whnf
      exact hnx6 _ _ _ _ (fun kk => by kernel_rfl) h

noncomputable def p_spec_A8Ranges (a_0 : List Int) : Option (List Record) :=
  callK (p_spec_l00From a_0) fun y1 =>
  callK (p_spec_l23Run y1) fun y2 =>
  some y2.1

set_option maxHeartbeats 4000000 in
theorem L_spec_A8Ranges (a_0 : List Int) {r : (List Record)} (h : p_spec_A8Ranges a_0 = some r) : callL E 40 [.d (.arr (a_0.map rU))] ([] : Fo) = some (.d (.arr (r.map rRecord)), ([] : Fo)) := by
  unfold p_spec_A8Ranges at h
  refine callW (fu := Try.f40) rfl rfl rfl NN ?_
  intro lp cl hlp hcl
  conv => lhs; whnf
  obtain ⟨y1, h_y1, h⟩ := callK_inv h
  rw [cl_eq hcl (L_spec_l00From a_0 h_y1)]
  rotate_left
  · show _ = _; kernel_rfl
  · show _ = _; kernel_rfl
  conv => lhs; whnf
  obtain ⟨y2, h_y2, h⟩ := callK_inv h
  rw [cl_eq hcl (L_spec_l23Run y1 h_y2)]
  rotate_left
  · show _ = _; kernel_rfl
  · show _ = _; kernel_rfl
  conv => lhs; whnf
  obtain rfl := Option.some.inj h; show _ = _; kernel_rfl


noncomputable def p_impl_ValidKey (a_0 : ByteArray) : Option Bool :=
  some (inR (ByteArray.size a_0 : Int) 1 8)

set_option maxHeartbeats 4000000 in
theorem L_impl_ValidKey (a_0 : ByteArray) {r : Bool} (h : p_impl_ValidKey a_0 = some r) : callL E 82 [ST a_0] ([] : Fo) = some (BO r, ([] : Fo)) := by
  unfold p_impl_ValidKey at h
  refine callW (fu := Try.f82) rfl rfl rfl NN ?_
  intro lp cl hlp hcl
  conv => lhs; whnf
  rw [cl_eq hcl (L_impl_within (ByteArray.size a_0 : Int) 1 8 (pl_within (ByteArray.size a_0 : Int) 1 8))]
  rotate_left
  · show _ = _; kernel_rfl
  · show _ = _; kernel_rfl
  conv => lhs; whnf
  obtain rfl := Option.some.inj h; show _ = _; kernel_rfl


noncomputable def p_impl_ValidRecord (a_0 : Record) : Option Bool :=
  callK (p_impl_ValidKey a_0.Key) fun y1 =>
  if y1 = true then
    if (inR a_0.Seq 1 1000000) = true then
      if a_0.Kind = 1 then
        if (ByteArray.size a_0.Value : Int) ≤ 16 then
          some (a_0.End.toList == (⟨#[]⟩ : ByteArray).toList)
        else
          some false
      else
        if a_0.Kind = 2 then
          if (a_0.Value.toList == (⟨#[]⟩ : ByteArray).toList) = true then
            some (a_0.End.toList == (⟨#[]⟩ : ByteArray).toList)
          else
            some false
        else
          if a_0.Kind = 3 then
            if (a_0.Value.toList == (⟨#[]⟩ : ByteArray).toList) = true then
              callK (p_impl_ValidKey a_0.End) fun y10 =>
              if y10 = true then
                some (!((Op.bytesLess a_0.End.toList a_0.Key.toList) || (a_0.End.toList == a_0.Key.toList)))
              else
                some false
            else
              some false
          else
            some false
    else
      some false
  else
    some false

set_option maxHeartbeats 4000000 in
theorem L_impl_ValidRecord (a_0 : Record) {r : Bool} (h : p_impl_ValidRecord a_0 = some r) : callL E 108 [.agg [ST a_0.Key, IN a_0.Seq, IN a_0.Kind, ST a_0.Value, ST a_0.End]] ([] : Fo) = some (BO r, ([] : Fo)) := by
  unfold p_impl_ValidRecord at h
  refine callW (fu := Try.f108) rfl rfl rfl NN ?_
  intro lp cl hlp hcl
  conv => lhs; whnf
  obtain ⟨y1, h_y1, h⟩ := callK_inv h
  rw [cl_eq hcl (L_impl_ValidKey a_0.Key h_y1)]
  rotate_left
  · show _ = _; kernel_rfl
  · show _ = _; kernel_rfl
  conv => lhs; whnf
  cases hb2 : y1
  · replace h := ifF h (booF hb2); conv => lhs; whnf
    try (rw [hb2]; conv => lhs; whnf)
    try (rw [hb2]; conv => lhs; whnf)
    try (rw [hb2]; conv => lhs; whnf)
    try (rw [hb2]; conv => lhs; whnf)
    obtain rfl := Option.some.inj h; show _ = _; kernel_rfl

  · replace h := ifT h hb2
    try rw [hb2] at h
    conv => lhs; whnf
    try (rw [hb2]; conv => lhs; whnf)
    try (rw [hb2]; conv => lhs; whnf)
    rw [cl_eq hcl (L_impl_within a_0.Seq 1 1000000 (pl_within a_0.Seq 1 1000000))]
    rotate_left
    · show _ = _; kernel_rfl
    · show _ = _; kernel_rfl
    conv => lhs; whnf
    try (rw [hb2]; conv => lhs; whnf)
    try (rw [hb2]; conv => lhs; whnf)
    cases hb3 : (inR a_0.Seq 1 1000000)
    · replace h := ifF h (booF hb3); conv => lhs; whnf
      obtain rfl := Option.some.inj h; show _ = _; kernel_rfl

    · replace h := ifT h hb3; conv => lhs; whnf
      cases hb4 : (a_0.Kind == 1)
      · replace h := ifF h (beqF hb4); conv => lhs; whnf
        cases hb6 : (a_0.Kind == 2)
        · replace h := ifF h (beqF hb6); conv => lhs; whnf
          cases hb8 : (a_0.Kind == 3)
          · replace h := ifF h (beqF hb8); conv => lhs; whnf
            obtain rfl := Option.some.inj h; show _ = _; kernel_rfl

          · replace h := ifT h (beqT hb8); conv => lhs; whnf
            cases hb9 : (a_0.Value.toList == (⟨#[]⟩ : ByteArray).toList)
            · replace h := ifF h (booF hb9); conv => lhs; whnf
              try (rw [hb9]; conv => lhs; whnf)
              try (rw [hb9]; conv => lhs; whnf)
              try (rw [hb9]; conv => lhs; whnf)
              obtain rfl := Option.some.inj h; show _ = _; kernel_rfl

            · replace h := ifT h hb9; conv => lhs; whnf
              try (rw [hb9]; conv => lhs; whnf)
              try (rw [hb9]; conv => lhs; whnf)
              obtain ⟨y10, h_y10, h⟩ := callK_inv h
              rw [cl_eq hcl (L_impl_ValidKey a_0.End h_y10)]
              rotate_left
              · show _ = _; kernel_rfl
              · show _ = _; kernel_rfl
              conv => lhs; whnf
              try (rw [hb9]; conv => lhs; whnf)
              cases hb11 : y10
              · replace h := ifF h (booF hb11); conv => lhs; whnf
                try (rw [hb11]; conv => lhs; whnf)
                try (rw [hb11]; conv => lhs; whnf)
                try (rw [hb11]; conv => lhs; whnf)
                try (rw [hb11]; conv => lhs; whnf)
                try (rw [hb11]; conv => lhs; whnf)
                obtain rfl := Option.some.inj h; show _ = _; kernel_rfl

              · replace h := ifT h hb11; conv => lhs; whnf
                try (rw [hb11]; conv => lhs; whnf)
                try (rw [hb11]; conv => lhs; whnf)
                try (rw [hb11]; conv => lhs; whnf)
                try (rw [hb11]; conv => lhs; whnf)
                try (rw [hb11]; conv => lhs; whnf)
                obtain rfl := Option.some.inj h; show _ = _; kernel_rfl

        · replace h := ifT h (beqT hb6); conv => lhs; whnf
          cases hb7 : (a_0.Value.toList == (⟨#[]⟩ : ByteArray).toList)
          · replace h := ifF h (booF hb7); conv => lhs; whnf
            try (rw [hb7]; conv => lhs; whnf)
            try (rw [hb7]; conv => lhs; whnf)
            try (rw [hb7]; conv => lhs; whnf)
            obtain rfl := Option.some.inj h; show _ = _; kernel_rfl

          · replace h := ifT h hb7; conv => lhs; whnf
            try (rw [hb7]; conv => lhs; whnf)
            try (rw [hb7]; conv => lhs; whnf)
            try (rw [hb7]; conv => lhs; whnf)
            obtain rfl := Option.some.inj h; show _ = _; kernel_rfl

      · replace h := ifT h (beqT hb4); conv => lhs; whnf
        cases hb5 : (decide ((ByteArray.size a_0.Value : Int) ≤ 16))
        · replace h := ifF h (decF hb5); conv => lhs; whnf
          try (rw [hb5]; conv => lhs; whnf)
          try (rw [hb5]; conv => lhs; whnf)
          try (rw [hb5]; conv => lhs; whnf)
          obtain rfl := Option.some.inj h; show _ = _; kernel_rfl

        · replace h := ifT h (decT hb5); conv => lhs; whnf
          try (rw [hb5]; conv => lhs; whnf)
          try (rw [hb5]; conv => lhs; whnf)
          try (rw [hb5]; conv => lhs; whnf)
          obtain rfl := Option.some.inj h; show _ = _; kernel_rfl


noncomputable def p_cmp_isNaN (a_0 : Int) : Option Bool :=
  some (a_0 != a_0)

set_option maxHeartbeats 4000000 in
theorem L_cmp_isNaN (a_0 : Int) {r : Bool} (h : p_cmp_isNaN a_0 = some r) : callL E 257 [IN a_0] ([] : Fo) = some (BO r, ([] : Fo)) := by
  unfold p_cmp_isNaN at h
  refine callW (fu := Try.f257) rfl rfl rfl NN ?_
  intro lp cl hlp hcl
  conv => lhs; whnf
  obtain rfl := Option.some.inj h; show _ = _; kernel_rfl


noncomputable def p_cmp_Compare (a_0 : Int) (a_1 : Int) : Option Int :=
  callK (p_cmp_isNaN a_0) fun y1 =>
  callK (p_cmp_isNaN a_1) fun y2 =>
  if y1 = true then
    if y2 = true then
      some 0
    else
      some (-1)
  else
    if y2 = true then
      some 1
    else
      if a_0 < a_1 then
        some (-1)
      else
        if a_0 > a_1 then
          some 1
        else
          some 0

set_option maxHeartbeats 4000000 in
theorem L_cmp_Compare (a_0 : Int) (a_1 : Int) {r : Int} (h : p_cmp_Compare a_0 a_1 = some r) : callL E 197 [IN a_0, IN a_1] ([] : Fo) = some (IN r, ([] : Fo)) := by
  unfold p_cmp_Compare at h
  refine callW (fu := Try.f197) rfl rfl rfl NN ?_
  intro lp cl hlp hcl
  conv => lhs; whnf
  obtain ⟨y1, h_y1, h⟩ := callK_inv h
  rw [cl_eq hcl (L_cmp_isNaN a_0 h_y1)]
  rotate_left
  · show _ = _; kernel_rfl
  · show _ = _; kernel_rfl
  conv => lhs; whnf
  obtain ⟨y2, h_y2, h⟩ := callK_inv h
  rw [cl_eq hcl (L_cmp_isNaN a_1 h_y2)]
  rotate_left
  · show _ = _; kernel_rfl
  · show _ = _; kernel_rfl
  conv => lhs; whnf
  cases hb3 : y1
  · replace h := ifF h (booF hb3); conv => lhs; whnf
    cases hb5 : y2
    · replace h := ifF h (booF hb5); conv => lhs; whnf
      cases hb6 : (decide (a_0 < a_1))
      · replace h := ifF h (decF hb6); conv => lhs; whnf
        cases hb7 : (decide (a_0 > a_1))
        · replace h := ifF h (decF hb7); conv => lhs; whnf
          obtain rfl := Option.some.inj h; show _ = _; kernel_rfl

        · replace h := ifT h (decT hb7); conv => lhs; whnf
          obtain rfl := Option.some.inj h; show _ = _; kernel_rfl

      · replace h := ifT h (decT hb6); conv => lhs; whnf
        obtain rfl := Option.some.inj h; show _ = _; kernel_rfl

    · replace h := ifT h hb5; conv => lhs; whnf
      obtain rfl := Option.some.inj h; show _ = _; kernel_rfl

  · replace h := ifT h hb3; conv => lhs; whnf
    cases hb4 : y2
    · replace h := ifF h (booF hb4); conv => lhs; whnf
      obtain rfl := Option.some.inj h; show _ = _; kernel_rfl

    · replace h := ifT h hb4; conv => lhs; whnf
      obtain rfl := Option.some.inj h; show _ = _; kernel_rfl


noncomputable def p_cmp_Or (a_0 : List Int) : Option Int :=
  grd (a_0.length < 4611686018427387904) <|
  forK a_0 (fun (i5 : Nat) x7 (_ : Unit) (nx6 : Unit → Option _) =>
    if ¬ x7 = 0 then
      some x7
    else
      nx6 ()) () (fun (_ : Unit) =>
    some 0)

set_option maxHeartbeats 4000000 in
theorem L_cmp_Or (a_0 : List Int) {r : Int} (h : p_cmp_Or a_0 = some r) : callL E 195 [.d (.arr (a_0.map rI))] ([] : Fo) = some (IN r, ([] : Fo)) := by
  unfold p_cmp_Or at h
  refine callW (fu := Try.f195) rfl rfl rfl NN ?_
  intro lp cl hlp hcl
  conv => lhs; whnf
  try rw [len_of (l := a_0) (r := rI)]
  obtain ⟨hl_i5, h⟩ := grd_inv h
  refine loop_for hlp (l := a_0) hl_i5 (fun (i5 : Nat) (_ : Unit) => ([.dead, .dead, .dead, IN 0, .dead, .dead, .d (.arr (a_0.map rI)), IN (a_0.length : Int), IN (i5 : Int)] ++ List.replicate 9 .dead : List V)) (fun (i5 : Nat) (_ : Unit) => ([] : Fo)) (fun (r : Int) => ((IN r : V), ([] : Fo))) ?_ ?_ () _ (fun kk => by kernel_rfl) h
  · clear h
    rintro next_nx6 nx6 i5 hi_i5 hnx6 ⟨⟩ r h
    try dsimp only at h
    have hn_i5 : i5 < 4611686018427387904 := by omega
    have hx_x7 := get_map rI a_0 i5 hi_i5
    generalize a_0[i5] = x7 at h hx_x7
    have hd_i5 : (decide ((i5 : Int) < (a_0.length : Int))) = true := decide_eq_true (by omega)
    conv => lhs; whnf
    try (first | rw [hd_i5] | (split; (first | (rename_i hx; exact absurd (hd_i5.symm.trans hx) (by decide)) | (rotate_left; rename_i hx; exact absurd (hd_i5.symm.trans hx) (by decide)))))
    conv => lhs; whnf
    try (rw [decide_eq_true hq_x7]; conv => lhs; whnf)
    rw [hx_x7]
    conv => lhs; whnf
    rw [hx_x7]
    conv => lhs; whnf
    cases hb8 : (x7 != 0)
    · replace h := ifF h ((fun h => not_not_intro (bneF h)) hb8); conv => lhs; whnf
      rw [wrap_nat i5 (by have := hn_i5; omega)]
      exact hnx6 _ _ _ _ (fun kk => by kernel_rfl) h
    · replace h := ifT h (bneT hb8); conv => lhs; whnf
      obtain rfl := Option.some.inj h; show _ = _; kernel_rfl

  · clear h
    rintro next_nx6 ⟨⟩ r h
    try dsimp only at h
    have hd_i5 : (decide ((a_0.length : Int) < (a_0.length : Int))) = false := decide_eq_false (by omega)
    conv => lhs; whnf
    try (first | rw [hd_i5] | (split; (first | (rename_i hx; exact absurd (hd_i5.symm.trans hx) (by decide)) | (rotate_left; rename_i hx; exact absurd (hd_i5.symm.trans hx) (by decide)))))
    conv => lhs; whnf
    obtain rfl := Option.some.inj h; show _ = _; kernel_rfl


noncomputable def p_impl_compareRecords (a_0 : Record) (a_1 : Record) : Option Int :=
  callK (p_cmp_Compare a_1.Seq a_0.Seq) fun y1 =>
  callK (p_cmp_Compare a_0.Kind a_1.Kind) fun y2 =>
  callK (p_cmp_Or ([(cmpB a_0.Key a_1.Key), y1, y2, (cmpB a_0.Value a_1.Value), (cmpB a_0.End a_1.End)] : List Int)) fun y3 =>
  some y3

set_option maxHeartbeats 4000000 in
theorem L_impl_compareRecords (a_0 : Record) (a_1 : Record) {r : Int} (h : p_impl_compareRecords a_0 a_1 = some r) : callL E 103 [.agg [ST a_0.Key, IN a_0.Seq, IN a_0.Kind, ST a_0.Value, ST a_0.End], .agg [ST a_1.Key, IN a_1.Seq, IN a_1.Kind, ST a_1.Value, ST a_1.End]] ([] : Fo) = some (IN r, ([] : Fo)) := by
  unfold p_impl_compareRecords at h
  refine callW (fu := Try.f103) rfl rfl rfl NN ?_
  intro lp cl hlp hcl
  conv => lhs; whnf
  rw [cl_eq hcl (f_Compare a_0.Key a_1.Key)]
  rotate_left
  · exact rfl
  · exact rfl
  conv => lhs; whnf
  obtain ⟨y1, h_y1, h⟩ := callK_inv h
  rw [cl_eq hcl (L_cmp_Compare a_1.Seq a_0.Seq h_y1)]
  rotate_left
  · show _ = _; kernel_rfl
  · show _ = _; kernel_rfl
  conv => lhs; whnf
  obtain ⟨y2, h_y2, h⟩ := callK_inv h
  rw [cl_eq hcl (L_cmp_Compare a_0.Kind a_1.Kind h_y2)]
  rotate_left
  · show _ = _; kernel_rfl
  · show _ = _; kernel_rfl
  conv => lhs; whnf
  rw [cl_eq hcl (f_Compare a_0.Value a_1.Value)]
  rotate_left
  · exact rfl
  · exact rfl
  conv => lhs; whnf
  rw [cl_eq hcl (f_Compare a_0.End a_1.End)]
  rotate_left
  · exact rfl
  · exact rfl
  conv => lhs; whnf
  obtain ⟨y3, h_y3, h⟩ := callK_inv h
  rw [cl_eq hcl (L_cmp_Or ([(cmpB a_0.Key a_1.Key), y1, y2, (cmpB a_0.Value a_1.Value), (cmpB a_0.End a_1.End)] : List Int) h_y3)]
  rotate_left
  · show _ = _; kernel_rfl
  · show _ = _; kernel_rfl
  conv => lhs; whnf
  obtain rfl := Option.some.inj h; show _ = _; kernel_rfl


noncomputable def p_impl_LessRecord (a_0 : Record) (a_1 : Record) : Option Bool :=
  callK (p_impl_compareRecords a_0 a_1) fun y1 =>
  some (decide (y1 < 0))

set_option maxHeartbeats 4000000 in
theorem L_impl_LessRecord (a_0 : Record) (a_1 : Record) {r : Bool} (h : p_impl_LessRecord a_0 a_1 = some r) : callL E 30 [.agg [ST a_0.Key, IN a_0.Seq, IN a_0.Kind, ST a_0.Value, ST a_0.End], .agg [ST a_1.Key, IN a_1.Seq, IN a_1.Kind, ST a_1.Value, ST a_1.End]] ([] : Fo) = some (BO r, ([] : Fo)) := by
  unfold p_impl_LessRecord at h
  refine callW (fu := Try.f30) rfl rfl rfl NN ?_
  intro lp cl hlp hcl
  conv => lhs; whnf
  obtain ⟨y1, h_y1, h⟩ := callK_inv h
  rw [cl_eq hcl (L_impl_compareRecords a_0 a_1 h_y1)]
  rotate_left
  · show _ = _; kernel_rfl
  · show _ = _; kernel_rfl
  conv => lhs; whnf
  obtain rfl := Option.some.inj h; show _ = _; kernel_rfl


noncomputable def p_impl_ValidRun (a_0 : List Record) : Option Bool :=
  grd (a_0.length < 4611686018427387904) <|
  forK a_0 (fun (i12 : Nat) x15 (v13 : List (Int × Bool)) (nx14 : (List (Int × Bool)) → Option _) =>
    callK (p_impl_ValidRecord x15) fun y16 =>
    if y16 = true then
      if (mgetT v13 x15.Seq false) = true then
        some false
      else
        if (i12 : Int) > 0 then
          getK a_0 (IntKind.i64.wrap ((i12 : Int) - 1)) fun x20 =>
          callK (p_impl_LessRecord x20 x15) fun y21 =>
          if y21 = true then
            nx14 (mputT v13 x15.Seq true)
          else
            some false
        else
          nx14 (mputT v13 x15.Seq true)
    else
      some false) ([] : List (Int × Bool)) (fun (v13 : List (Int × Bool)) =>
    some true)

set_option maxHeartbeats 4000000 in
theorem L_impl_ValidRun (a_0 : List Record) {r : Bool} (h : p_impl_ValidRun a_0 = some r) : callL E 38 [.d (.arr (a_0.map rRecord))] ([] : Fo) = some (BO r, ([] : Fo)) := by
  unfold p_impl_ValidRun at h
  refine callW (fu := Try.f38) rfl rfl rfl NN ?_
  intro lp cl hlp hcl
  conv => lhs; whnf
  try rw [len_of (l := a_0) (r := rRecord)]
  obtain ⟨hl_i12, h⟩ := grd_inv h
  refine loop_for hlp (l := a_0) hl_i12 (fun (i12 : Nat) (v13 : List (Int × Bool)) => ([.d (.arr (a_0.map rRecord)), .dead, .dead, .mp 0, .dead, .dead, .dead, .d (.arr (a_0.map rRecord)), IN (a_0.length : Int), IN (i12 : Int)] ++ List.replicate 31 .dead : List V)) (fun (i12 : Nat) (v13 : List (Int × Bool)) => ([some (.mp .i64 (mE dB v13))] : Fo)) (fun (r : Bool) => ((BO r : V), ([] : Fo))) ?_ ?_ ([] : List (Int × Bool)) _ (fun kk => by kernel_rfl) h
  · clear h
    rintro next_nx14 nx14 i12 hi_i12 hnx14 v13 r h
    try dsimp only at h
    have hn_i12 : i12 < 4611686018427387904 := by omega
    have hx_x15 := get_map rRecord a_0 i12 hi_i12
    generalize a_0[i12] = x15 at h hx_x15
    have hd_i12 : (decide ((i12 : Int) < (a_0.length : Int))) = true := decide_eq_true (by omega)
    conv => lhs; whnf
    try (first | rw [hd_i12] | (split; (first | (rename_i hx; exact absurd (hd_i12.symm.trans hx) (by decide)) | (rotate_left; rename_i hx; exact absurd (hd_i12.symm.trans hx) (by decide)))))
    conv => lhs; whnf
    try (rw [decide_eq_true hq_x15]; conv => lhs; whnf)
    rw [hx_x15]
    conv => lhs; whnf
    rw [hx_x15]
    conv => lhs; whnf
    obtain ⟨y16, h_y16, h⟩ := callK_inv h
    rw [cl_eq hcl (L_impl_ValidRecord x15 h_y16)]
    rotate_left
    · show _ = _; kernel_rfl
    · show _ = _; kernel_rfl
    conv => lhs; whnf
    cases hb17 : y16
    · replace h := ifF h (booF hb17); conv => lhs; whnf
      try (rw [hb17]; conv => lhs; whnf)
      try (rw [hb17]; conv => lhs; whnf)
      try (rw [hb17]; conv => lhs; whnf)
      try (rw [hb17]; conv => lhs; whnf)
      obtain rfl := Option.some.inj h; show _ = _; kernel_rfl

    · replace h := ifT h hb17; conv => lhs; whnf
      try (rw [hb17]; conv => lhs; whnf)
      try (rw [hb17]; conv => lhs; whnf)
      try (rw [hb17]; conv => lhs; whnf)
      try rw [mgetD_of (f := dB) (l := v13) (n := x15.Seq) (z := false)]
      try (rw [hb17]; conv => lhs; whnf)
      cases hb18 : (mgetT v13 x15.Seq false)
      · replace h := ifF h (booF hb18); conv => lhs; whnf
        try (rw [hb18]; conv => lhs; whnf)
        try (rw [hb18]; conv => lhs; whnf)
        cases hb19 : (decide ((i12 : Int) > 0))
        · replace h := ifF h (decF hb19); conv => lhs; whnf
          try (rw [hb19]; conv => lhs; whnf)
          try (rw [hb19]; conv => lhs; whnf)
          try (rw [hb19]; conv => lhs; whnf)
          try (rw [hb19]; conv => lhs; whnf)
          try (rw [hb19]; conv => lhs; whnf)
          try (rw [hb19]; conv => lhs; whnf)
          try (rw [hb19]; conv => lhs; whnf)
          try (rw [hb18]; conv => lhs; whnf)
          try (rw [hb19]; conv => lhs; whnf)
          try (rw [hb18]; conv => lhs; whnf)
          try rw [mput_of (f := dB) (l := v13) (n := x15.Seq) (x := true) (y := _) rfl]
          rw [wrap_nat i12 (by have := hn_i12; omega)]
          exact hnx14 _ _ _ _ (fun kk => by kernel_rfl) h
        · replace h := ifT h (decT hb19); conv => lhs; whnf
          try (rw [hb19]; conv => lhs; whnf)
          try (rw [hb19]; conv => lhs; whnf)
          try (rw [hb19]; conv => lhs; whnf)
          obtain ⟨x20, hq_x20, hx_x20', h⟩ := getK_inv h
          have hx_x20 := get_of (r := rRecord) hx_x20'
          try (rw [decide_eq_true hq_x20]; conv => lhs; whnf)
          rw [hx_x20]
          conv => lhs; whnf
          try (rw [hb19]; conv => lhs; whnf)
          rw [hx_x20]
          conv => lhs; whnf
          try (rw [hb19]; conv => lhs; whnf)
          try (rw [hb19]; conv => lhs; whnf)
          obtain ⟨y21, h_y21, h⟩ := callK_inv h
          rw [cl_eq hcl (L_impl_LessRecord x20 x15 h_y21)]
          rotate_left
          · show _ = _; kernel_rfl
          · show _ = _; kernel_rfl
          conv => lhs; whnf
          try (rw [hb19]; conv => lhs; whnf)
          try (rw [hb18]; conv => lhs; whnf)
          try (rw [hb19]; conv => lhs; whnf)
          try (rw [hb18]; conv => lhs; whnf)
          cases hb22 : y21
          · replace h := ifF h (booF hb22); conv => lhs; whnf
            obtain rfl := Option.some.inj h; show _ = _; kernel_rfl

          · replace h := ifT h hb22; conv => lhs; whnf
            try rw [mput_of (f := dB) (l := v13) (n := x15.Seq) (x := true) (y := _) rfl]
            rw [wrap_nat i12 (by have := hn_i12; omega)]
            exact hnx14 _ _ _ _ (fun kk => by kernel_rfl) h
      · replace h := ifT h hb18; conv => lhs; whnf
        try (rw [hb18]; conv => lhs; whnf)
        try (rw [hb18]; conv => lhs; whnf)
        try (rw [hb18]; conv => lhs; whnf)
        try (rw [hb18]; conv => lhs; whnf)
        obtain rfl := Option.some.inj h; show _ = _; kernel_rfl

  · clear h
    rintro next_nx14 v13 r h
    try dsimp only at h
    have hd_i12 : (decide ((a_0.length : Int) < (a_0.length : Int))) = false := decide_eq_false (by omega)
    conv => lhs; whnf
    try (first | rw [hd_i12] | (split; (first | (rename_i hx; exact absurd (hd_i12.symm.trans hx) (by decide)) | (rotate_left; rename_i hx; exact absurd (hd_i12.symm.trans hx) (by decide)))))
    conv => lhs; whnf
    obtain rfl := Option.some.inj h; show _ = _; kernel_rfl


noncomputable def p_impl_isRange (a_0 : Record) : Option Bool :=
  some (a_0.Kind == 3)

set_option maxHeartbeats 4000000 in
theorem L_impl_isRange (a_0 : Record) {r : Bool} (h : p_impl_isRange a_0 = some r) : callL E 205 [.agg [ST a_0.Key, IN a_0.Seq, IN a_0.Kind, ST a_0.Value, ST a_0.End]] ([] : Fo) = some (BO r, ([] : Fo)) := by
  unfold p_impl_isRange at h
  refine callW (fu := Try.f205) rfl rfl rfl NN ?_
  intro lp cl hlp hcl
  conv => lhs; whnf
  obtain rfl := Option.some.inj h; show _ = _; kernel_rfl


noncomputable def p_slices_Compact (a_0 : List ByteArray) : Option (List ByteArray) :=
  if (a_0.length : Int) < 2 then
    some a_0
  else
    iterK (fun (v2 : Int) (nx3 : Int → Option _) =>
      if v2 < (a_0.length : Int) then
        getK a_0 v2 fun x5 =>
        getK a_0 (IntKind.i64.wrap (v2 - 1)) fun x6 =>
        if (x5.toList == x6.toList) = true then
          grd (0 ≤ v2 ∧ v2 < (a_0.length : Int)) <|
          iterK (fun ((v8, v9, v10) : (Int × Int × (List ByteArray))) (nx11 : (Int × Int × (List ByteArray)) → Option _) =>
            if v9 < ((List.drop (Int.toNat v2) v10).length : Int) then
              grd (0 ≤ v9) <|
              getN v10 ((Int.toNat v2) + Int.toNat v9) fun x13 =>
              grd (0 ≤ (IntKind.i64.wrap (v9 - 1))) <|
              getN v10 ((Int.toNat v2) + Int.toNat (IntKind.i64.wrap (v9 - 1))) fun x14 =>
              if (x13.toList == x14.toList) = true then
                nx11 (v8, (IntKind.i64.wrap (v9 + 1)), v10)
              else
                grd (0 ≤ v9) <|
                getK v10 v8 fun x16 =>
                nx11 ((IntKind.i64.wrap (v8 + 1)), (IntKind.i64.wrap (v9 + 1)), (v10.set (Int.toNat v8) x13))
            else
              grd (0 ≤ v8 ∧ v8 < (v10.length : Int)) <|
              grd (0 ≤ v8 ∧ v8 ≤ ((v10.take (Int.toNat v8) ++ List.replicate (v10.length - (Int.toNat v8)) ((⟨#[]⟩ : ByteArray) : ByteArray)).length : Int)) <|
              some ((v10.take (Int.toNat v8) ++ List.replicate (v10.length - (Int.toNat v8)) ((⟨#[]⟩ : ByteArray) : ByteArray)).take (Int.toNat v8))) NN (v2, 1, a_0)
        else
          nx3 (IntKind.i64.wrap (v2 + 1))
      else
        some a_0) NN 1

set_option maxHeartbeats 4000000 in
theorem L_slices_Compact (a_0 : List ByteArray) {r : (List ByteArray)} (h : p_slices_Compact a_0 = some r) : callL E 212 [.sl 0] ([some (.arr 9 1 (a_0.map rS))] : Fo) = some (.sl 1, ([none, some (.arr 9 1 (r.map rS))] : Fo)) := by
  unfold p_slices_Compact at h
  refine callW (fu := Try.f212) rfl rfl rfl NN ?_
  intro lp cl hlp hcl
  conv => lhs; whnf
  try rw [len_of (l := a_0) (r := rS)]
  cases hb1 : (decide ((a_0.length : Int) < 2))
  · replace h := ifF h (decF hb1); conv => lhs; whnf
    refine loop_iter hlp (fun (v2 : Int) => ([.sl 0, .dead, .dead, IN v2] ++ List.replicate 57 .dead : List V)) (fun (v2 : Int) => ([some (.arr 9 1 (a_0.map rS))] : Fo)) (fun (r : (List ByteArray)) => ((.sl 1 : V), ([none, some (.arr 9 1 (r.map rS))] : Fo))) ?_ 1 _ (fun kk => by kernel_rfl) h
    clear h
    rintro next_nx3 nx3 hnx3 v2 r h
    try dsimp only at h
    conv => lhs; whnf
    try rw [len_of (l := a_0) (r := rS)]
    cases hb4 : (decide (v2 < (a_0.length : Int)))
    · replace h := ifF h (decF hb4); conv => lhs; whnf
      obtain rfl := Option.some.inj h; show _ = _; kernel_rfl

    · replace h := ifT h (decT hb4); conv => lhs; whnf
      obtain ⟨x5, hq_x5, hx_x5', h⟩ := getK_inv h
      have hx_x5 := get_of (r := rS) hx_x5'
      try (rw [decide_eq_true hq_x5]; conv => lhs; whnf)
      rw [hx_x5]
      conv => lhs; whnf
      rw [hx_x5]
      conv => lhs; whnf
      obtain ⟨x6, hq_x6, hx_x6', h⟩ := getK_inv h
      have hx_x6 := get_of (r := rS) hx_x6'
      try (rw [decide_eq_true hq_x6]; conv => lhs; whnf)
      rw [hx_x6]
      conv => lhs; whnf
      rw [hx_x6]
      conv => lhs; whnf
      cases hb7 : (x5.toList == x6.toList)
      · replace h := ifF h (booF hb7); conv => lhs; whnf
        exact hnx3 _ _ _ _ (fun kk => by kernel_rfl) h
      · replace h := ifT h hb7; conv => lhs; whnf
        obtain ⟨hg17, h⟩ := grd_inv h
        try rw [List.length_map]
        try (rw [decide_eq_true hg17.1]; conv => lhs; whnf)
        try (rw [decide_eq_true hg17.2])
        conv => lhs; whnf
        refine loop_iter hlp (fun ((v8, v9, v10) : (Int × Int × (List ByteArray))) => ([.sl 0, .dead, .dead, IN v8, .tl 0 (Int.toNat v2), IN v9] ++ List.replicate 55 .dead : List V)) (fun ((v8, v9, v10) : (Int × Int × (List ByteArray))) => ([some (.arr 9 1 (v10.map rS))] : Fo)) (fun (r : (List ByteArray)) => ((.sl 1 : V), ([none, some (.arr 9 1 (r.map rS))] : Fo))) ?_ (v2, 1, a_0) _ (fun kk => by kernel_rfl) h
        clear h
        rintro next_nx11 nx11 hnx11 ⟨v8, v9, v10⟩ r h
        try dsimp only at h
        conv => lhs; whnf
        try rw [← List.map_drop]
        try rw [len_of (l := (List.drop (Int.toNat v2) v10)) (r := rS)]
        cases hb12 : (decide (v9 < ((List.drop (Int.toNat v2) v10).length : Int)))
        · replace h := ifF h (decF hb12); conv => lhs; whnf
          obtain ⟨hg18, h⟩ := grd_inv h
          try rw [List.length_map]
          try (rw [decide_eq_true hg18.1]; conv => lhs; whnf)
          try (rw [decide_eq_true hg18.2])
          conv => lhs; whnf
          first | (rw [wipe_of (r := rS) (l := v10) (x := ((⟨#[]⟩ : ByteArray) : ByteArray)) ?hh]; case hh => exact rfl) | skip
          obtain ⟨hg19, h⟩ := grd_inv h
          try rw [List.length_map]
          try (rw [decide_eq_true hg19.1]; conv => lhs; whnf)
          try (rw [decide_eq_true hg19.2])
          conv => lhs; whnf
          try rw [take_of (r := rS) (l := (v10.take (Int.toNat v8) ++ List.replicate (v10.length - (Int.toNat v8)) ((⟨#[]⟩ : ByteArray) : ByteArray)))]
          obtain rfl := Option.some.inj h; show _ = _; kernel_rfl

        · replace h := ifT h (decT hb12); conv => lhs; whnf
          obtain ⟨hg20, h⟩ := grd_inv h
          try (rw [decide_eq_true hg20]; conv => lhs; whnf)
          conv => lhs; whnf
          obtain ⟨x13, hx_x13', h⟩ := getN_inv h
          have hx_x13 := get_of (r := rS) hx_x13'
          rw [hx_x13]
          conv => lhs; whnf
          rw [hx_x13]
          conv => lhs; whnf
          obtain ⟨hg21, h⟩ := grd_inv h
          try (rw [decide_eq_true hg21]; conv => lhs; whnf)
          conv => lhs; whnf
          obtain ⟨x14, hx_x14', h⟩ := getN_inv h
          have hx_x14 := get_of (r := rS) hx_x14'
          rw [hx_x14]
          conv => lhs; whnf
          rw [hx_x14]
          conv => lhs; whnf
          cases hb15 : (x13.toList == x14.toList)
          · replace h := ifF h (booF hb15); conv => lhs; whnf
            obtain ⟨hg22, h⟩ := grd_inv h
            try (rw [decide_eq_true hg22]; conv => lhs; whnf)
            conv => lhs; whnf
            rw [hx_x13]
            conv => lhs; whnf
            rw [hx_x13]
            conv => lhs; whnf
            obtain ⟨x16, hq_x16, hx_x16', h⟩ := getK_inv h
            have hx_x16 := get_of (r := rS) hx_x16'
            try (rw [decide_eq_true hq_x16]; conv => lhs; whnf)
            rw [hx_x16]
            conv => lhs; whnf
            rw [hx_x16]
            conv => lhs; whnf
            first | (rw [map_set_of (r := rS) (l := v10) (x := x13) ?hh]; case hh => exact rfl) | skip
            exact hnx11 _ _ _ _ (fun kk => by kernel_rfl) h
          · replace h := ifT h hb15; conv => lhs; whnf
            exact hnx11 _ _ _ _ (fun kk => by kernel_rfl) h
  · replace h := ifT h (decT hb1); conv => lhs; whnf
    obtain rfl := Option.some.inj h; show _ = _; kernel_rfl


noncomputable def p_slices_Compact' (a_0 : List Int) : Option (List Int) :=
  if (a_0.length : Int) < 2 then
    some a_0
  else
    iterK (fun (v2 : Int) (nx3 : Int → Option _) =>
      if v2 < (a_0.length : Int) then
        getK a_0 v2 fun x5 =>
        getK a_0 (IntKind.i64.wrap (v2 - 1)) fun x6 =>
        if x5 = x6 then
          grd (0 ≤ v2 ∧ v2 < (a_0.length : Int)) <|
          iterK (fun ((v8, v9, v10) : (Int × Int × (List Int))) (nx11 : (Int × Int × (List Int)) → Option _) =>
            if v9 < ((List.drop (Int.toNat v2) v10).length : Int) then
              grd (0 ≤ v9) <|
              getN v10 ((Int.toNat v2) + Int.toNat v9) fun x13 =>
              grd (0 ≤ (IntKind.i64.wrap (v9 - 1))) <|
              getN v10 ((Int.toNat v2) + Int.toNat (IntKind.i64.wrap (v9 - 1))) fun x14 =>
              if ¬ x13 = x14 then
                grd (0 ≤ v9) <|
                getK v10 v8 fun x16 =>
                nx11 ((IntKind.i64.wrap (v8 + 1)), (IntKind.i64.wrap (v9 + 1)), (v10.set (Int.toNat v8) x13))
              else
                nx11 (v8, (IntKind.i64.wrap (v9 + 1)), v10)
            else
              grd (0 ≤ v8 ∧ v8 < (v10.length : Int)) <|
              grd (0 ≤ v8 ∧ v8 ≤ ((v10.take (Int.toNat v8) ++ List.replicate (v10.length - (Int.toNat v8)) (0 : Int)).length : Int)) <|
              some ((v10.take (Int.toNat v8) ++ List.replicate (v10.length - (Int.toNat v8)) (0 : Int)).take (Int.toNat v8))) NN (v2, 1, a_0)
        else
          nx3 (IntKind.i64.wrap (v2 + 1))
      else
        some a_0) NN 1

set_option maxHeartbeats 4000000 in
theorem L_slices_Compact' (a_0 : List Int) {r : (List Int)} (h : p_slices_Compact' a_0 = some r) : callL E 214 [.sl 0] ([some (.arr 2 1 (a_0.map rI))] : Fo) = some (.sl 1, ([none, some (.arr 2 1 (r.map rI))] : Fo)) := by
  unfold p_slices_Compact' at h
  refine callW (fu := Try.f214) rfl rfl rfl NN ?_
  intro lp cl hlp hcl
  conv => lhs; whnf
  try rw [len_of (l := a_0) (r := rI)]
  cases hb1 : (decide ((a_0.length : Int) < 2))
  · replace h := ifF h (decF hb1); conv => lhs; whnf
    refine loop_iter hlp (fun (v2 : Int) => ([.sl 0, .dead, .dead, IN v2] ++ List.replicate 57 .dead : List V)) (fun (v2 : Int) => ([some (.arr 2 1 (a_0.map rI))] : Fo)) (fun (r : (List Int)) => ((.sl 1 : V), ([none, some (.arr 2 1 (r.map rI))] : Fo))) ?_ 1 _ (fun kk => by kernel_rfl) h
    clear h
    rintro next_nx3 nx3 hnx3 v2 r h
    try dsimp only at h
    conv => lhs; whnf
    try rw [len_of (l := a_0) (r := rI)]
    cases hb4 : (decide (v2 < (a_0.length : Int)))
    · replace h := ifF h (decF hb4); conv => lhs; whnf
      obtain rfl := Option.some.inj h; show _ = _; kernel_rfl

    · replace h := ifT h (decT hb4); conv => lhs; whnf
      obtain ⟨x5, hq_x5, hx_x5', h⟩ := getK_inv h
      have hx_x5 := get_of (r := rI) hx_x5'
      try (rw [decide_eq_true hq_x5]; conv => lhs; whnf)
      rw [hx_x5]
      conv => lhs; whnf
      rw [hx_x5]
      conv => lhs; whnf
      obtain ⟨x6, hq_x6, hx_x6', h⟩ := getK_inv h
      have hx_x6 := get_of (r := rI) hx_x6'
      try (rw [decide_eq_true hq_x6]; conv => lhs; whnf)
      rw [hx_x6]
      conv => lhs; whnf
      rw [hx_x6]
      conv => lhs; whnf
      cases hb7 : (x5 == x6)
      · replace h := ifF h (beqF hb7); conv => lhs; whnf
        exact hnx3 _ _ _ _ (fun kk => by kernel_rfl) h
      · replace h := ifT h (beqT hb7); conv => lhs; whnf
        obtain ⟨hg17, h⟩ := grd_inv h
        try rw [List.length_map]
        try (rw [decide_eq_true hg17.1]; conv => lhs; whnf)
        try (rw [decide_eq_true hg17.2])
        conv => lhs; whnf
        refine loop_iter hlp (fun ((v8, v9, v10) : (Int × Int × (List Int))) => ([.sl 0, .dead, .dead, IN v8, .tl 0 (Int.toNat v2), IN v9] ++ List.replicate 55 .dead : List V)) (fun ((v8, v9, v10) : (Int × Int × (List Int))) => ([some (.arr 2 1 (v10.map rI))] : Fo)) (fun (r : (List Int)) => ((.sl 1 : V), ([none, some (.arr 2 1 (r.map rI))] : Fo))) ?_ (v2, 1, a_0) _ (fun kk => by kernel_rfl) h
        clear h
        rintro next_nx11 nx11 hnx11 ⟨v8, v9, v10⟩ r h
        try dsimp only at h
        conv => lhs; whnf
        try rw [← List.map_drop]
        try rw [len_of (l := (List.drop (Int.toNat v2) v10)) (r := rI)]
        cases hb12 : (decide (v9 < ((List.drop (Int.toNat v2) v10).length : Int)))
        · replace h := ifF h (decF hb12); conv => lhs; whnf
          obtain ⟨hg18, h⟩ := grd_inv h
          try rw [List.length_map]
          try (rw [decide_eq_true hg18.1]; conv => lhs; whnf)
          try (rw [decide_eq_true hg18.2])
          conv => lhs; whnf
          first | (rw [wipe_of (r := rI) (l := v10) (x := (0 : Int)) ?hh]; case hh => exact rfl) | skip
          obtain ⟨hg19, h⟩ := grd_inv h
          try rw [List.length_map]
          try (rw [decide_eq_true hg19.1]; conv => lhs; whnf)
          try (rw [decide_eq_true hg19.2])
          conv => lhs; whnf
          try rw [take_of (r := rI) (l := (v10.take (Int.toNat v8) ++ List.replicate (v10.length - (Int.toNat v8)) (0 : Int)))]
          obtain rfl := Option.some.inj h; show _ = _; kernel_rfl

        · replace h := ifT h (decT hb12); conv => lhs; whnf
          obtain ⟨hg20, h⟩ := grd_inv h
          try (rw [decide_eq_true hg20]; conv => lhs; whnf)
          conv => lhs; whnf
          obtain ⟨x13, hx_x13', h⟩ := getN_inv h
          have hx_x13 := get_of (r := rI) hx_x13'
          rw [hx_x13]
          conv => lhs; whnf
          rw [hx_x13]
          conv => lhs; whnf
          obtain ⟨hg21, h⟩ := grd_inv h
          try (rw [decide_eq_true hg21]; conv => lhs; whnf)
          conv => lhs; whnf
          obtain ⟨x14, hx_x14', h⟩ := getN_inv h
          have hx_x14 := get_of (r := rI) hx_x14'
          rw [hx_x14]
          conv => lhs; whnf
          rw [hx_x14]
          conv => lhs; whnf
          cases hb15 : (x13 != x14)
          · replace h := ifF h ((fun h => not_not_intro (bneF h)) hb15); conv => lhs; whnf
            exact hnx11 _ _ _ _ (fun kk => by kernel_rfl) h
          · replace h := ifT h (bneT hb15); conv => lhs; whnf
            obtain ⟨hg22, h⟩ := grd_inv h
            try (rw [decide_eq_true hg22]; conv => lhs; whnf)
            conv => lhs; whnf
            rw [hx_x13]
            conv => lhs; whnf
            rw [hx_x13]
            conv => lhs; whnf
            obtain ⟨x16, hq_x16, hx_x16', h⟩ := getK_inv h
            have hx_x16 := get_of (r := rI) hx_x16'
            try (rw [decide_eq_true hq_x16]; conv => lhs; whnf)
            rw [hx_x16]
            conv => lhs; whnf
            rw [hx_x16]
            conv => lhs; whnf
            first | (rw [map_set_of (r := rI) (l := v10) (x := x13) ?hh]; case hh => exact rfl) | skip
            exact hnx11 _ _ _ _ (fun kk => by kernel_rfl) h
  · replace h := ifT h (decT hb1); conv => lhs; whnf
    obtain rfl := Option.some.inj h; show _ = _; kernel_rfl


noncomputable def p_slices_Reverse (a_0 : List Int) : Option (List Int) :=
  iterK (fun ((v1, v2, v3) : (Int × Int × (List Int))) (nx4 : (Int × Int × (List Int)) → Option _) =>
    if v1 < v2 then
      getK v3 v2 fun x6 =>
      getK v3 v1 fun x7 =>
      getK (v3.set (Int.toNat v1) x6) v2 fun x8 =>
      nx4 ((IntKind.i64.wrap (v1 + 1)), (IntKind.i64.wrap (v2 - 1)), ((v3.set (Int.toNat v1) x6).set (Int.toNat v2) x7))
    else
      some v3) NN (0, (IntKind.i64.wrap ((a_0.length : Int) - 1)), a_0)

set_option maxHeartbeats 4000000 in
theorem L_slices_Reverse (a_0 : List Int) {r : (List Int)} (h : p_slices_Reverse a_0 = some r) : callL E 215 [.sl 0] ([some (.arr 2 1 (a_0.map rI))] : Fo) = some (.tup [], ([some (.arr 2 1 (r.map rI))] : Fo)) := by
  unfold p_slices_Reverse at h
  refine callW (fu := Try.f215) rfl rfl rfl NN ?_
  intro lp cl hlp hcl
  conv => lhs; whnf
  try rw [len_of (l := a_0) (r := rI)]
  refine loop_iter hlp (fun ((v1, v2, v3) : (Int × Int × (List Int))) => ([.sl 0, .dead, IN v1, IN v2] ++ List.replicate 24 .dead : List V)) (fun ((v1, v2, v3) : (Int × Int × (List Int))) => ([some (.arr 2 1 (v3.map rI))] : Fo)) (fun (r : (List Int)) => ((.tup [] : V), ([some (.arr 2 1 (r.map rI))] : Fo))) ?_ (0, (IntKind.i64.wrap ((a_0.length : Int) - 1)), a_0) _ (fun kk => by kernel_rfl) h
  clear h
  rintro next_nx4 nx4 hnx4 ⟨v1, v2, v3⟩ r h
  try dsimp only at h
  conv => lhs; whnf
  cases hb5 : (decide (v1 < v2))
  · replace h := ifF h (decF hb5); conv => lhs; whnf
    obtain rfl := Option.some.inj h; show _ = _; kernel_rfl

  · replace h := ifT h (decT hb5); conv => lhs; whnf
    obtain ⟨x6, hq_x6, hx_x6', h⟩ := getK_inv h
    have hx_x6 := get_of (r := rI) hx_x6'
    try (rw [decide_eq_true hq_x6]; conv => lhs; whnf)
    rw [hx_x6]
    conv => lhs; whnf
    rw [hx_x6]
    conv => lhs; whnf
    obtain ⟨x7, hq_x7, hx_x7', h⟩ := getK_inv h
    have hx_x7 := get_of (r := rI) hx_x7'
    try (rw [decide_eq_true hq_x7]; conv => lhs; whnf)
    rw [hx_x7]
    conv => lhs; whnf
    rw [hx_x7]
    conv => lhs; whnf
    try (rw [decide_eq_true hq_x7]; conv => lhs; whnf)
    rw [hx_x7]
    conv => lhs; whnf
    rw [hx_x7]
    conv => lhs; whnf
    first | (rw [map_set_of (r := rI) (l := v3) (x := x6) ?hh]; case hh => exact rfl) | skip
    obtain ⟨x8, hq_x8, hx_x8', h⟩ := getK_inv h
    have hx_x8 := get_of (r := rI) hx_x8'
    try (rw [decide_eq_true hq_x8]; conv => lhs; whnf)
    rw [hx_x8]
    conv => lhs; whnf
    rw [hx_x8]
    conv => lhs; whnf
    first | (rw [map_set_of (r := rI) (l := (v3.set (Int.toNat v1) x6)) (x := x7) ?hh]; case hh => exact rfl) | skip
    exact hnx4 _ _ _ _ (fun kk => by kernel_rfl) h

noncomputable def p_impl_split (a_0 : List Fragment) : Option (List Fragment) :=
  grd (a_0.length < 4611686018427387904) <|
  forK a_0 (fun (i5 : Nat) x8 (v6 : List ByteArray) (nx7 : (List ByteArray) → Option _) =>
    grd (appOk (v6.length + 2) 16 = true) <|
    nx7 (v6 ++ ([x8.Low, x8.End] : List ByteArray))) ([] : List ByteArray) (fun (v6 : List ByteArray) =>
    grd (v6.length < 4611686018427387904) <|
    callK (p_slices_Compact (sortS v6)) fun y9 =>
    iterK (fun ((v10, v11) : (Int × (List Fragment))) (nx12 : (Int × (List Fragment)) → Option _) =>
      if v10 < (y9.length : Int) then
        getK y9 (IntKind.i64.wrap (v10 - 1)) fun x14 =>
        getK y9 v10 fun x15 =>
        grd (a_0.length < 4611686018427387904) <|
        forK a_0 (fun (i22 : Nat) x25 (v23 : List Int) (nx24 : (List Int) → Option _) =>
          if ((Op.bytesLess x25.Low.toList x14.toList) || (x25.Low.toList == x14.toList)) = true then
            if ((Op.bytesLess x15.toList x25.End.toList) || (x15.toList == x25.End.toList)) = true then
              grd (appOk (v23.length + x25.Seqs.length) 8 = true) <|
              nx24 (v23 ++ x25.Seqs)
            else
              nx24 v23
          else
            nx24 v23) ([] : List Int) (fun (v23 : List Int) =>
          grd (v23.length < 4611686018427387904) <|
          callK (p_slices_Compact' (sortI v23)) fun y28 =>
          callK (p_slices_Reverse y28) fun y29 =>
          if (y29.length : Int) > 0 then
            grd (appOk (v11.length + 1) 56 = true) <|
            nx12 ((IntKind.i64.wrap (v10 + 1)), (v11 ++ ([(⟨x14, x15, y29⟩ : Fragment)] : List Fragment)))
          else
            nx12 ((IntKind.i64.wrap (v10 + 1)), v11))
      else
        some v11) NN (1, ([] : List Fragment)))

set_option maxHeartbeats 4000000 in
theorem L_impl_split (a_0 : List Fragment) {r : (List Fragment)} (h : p_impl_split a_0 = some r) : callL E 126 [.d (.arr (a_0.map rFragment))] ([] : Fo) = some (.d (.arr (r.map rFragment)), ([] : Fo)) := by
  unfold p_impl_split at h
  refine callW (fu := Try.f126) rfl rfl rfl NN ?_
  intro lp cl hlp hcl
  conv => lhs; whnf
  try rw [len_of (l := a_0) (r := rFragment)]
  obtain ⟨hl_i5, h⟩ := grd_inv h
  refine loop_for hlp (l := a_0) hl_i5 (fun (i5 : Nat) (v6 : List ByteArray) => ([.d (.arr (a_0.map rFragment)), .dead, .dead, .sl 0, .dead, .dead, .dead, .dead, .dead, .dead, .dead, .d (.arr (a_0.map rFragment)), IN (a_0.length : Int), IN (i5 : Int)] ++ List.replicate 75 .dead : List V)) (fun (i5 : Nat) (v6 : List ByteArray) => ([some (.arr 9 1 (v6.map rS))] : Fo)) (fun (r : (List Fragment)) => ((.d (.arr (r.map rFragment)) : V), ([] : Fo))) ?_ ?_ ([] : List ByteArray) _ (fun kk => by kernel_rfl) h
  · clear h
    rintro next_nx7 nx7 i5 hi_i5 hnx7 v6 r h
    try dsimp only at h
    have hn_i5 : i5 < 4611686018427387904 := by omega
    have hx_x8 := get_map rFragment a_0 i5 hi_i5
    generalize a_0[i5] = x8 at h hx_x8
    have hd_i5 : (decide ((i5 : Int) < (a_0.length : Int))) = true := decide_eq_true (by omega)
    conv => lhs; whnf
    try (first | rw [hd_i5] | (split; (first | (rename_i hx; exact absurd (hd_i5.symm.trans hx) (by decide)) | (rotate_left; rename_i hx; exact absurd (hd_i5.symm.trans hx) (by decide)))))
    conv => lhs; whnf
    try (rw [decide_eq_true hq_x8]; conv => lhs; whnf)
    rw [hx_x8]
    conv => lhs; whnf
    rw [hx_x8]
    conv => lhs; whnf
    obtain ⟨hg31, h⟩ := grd_inv h
    rw [app_eq hg31 ?h1 ?h2]
    case h1 => first | exact rfl | (simp only [List.length_map, List.length_cons, List.length_nil]; done) | (rw [List.length_map]; rfl)
    case h2 => exact rfl
    conv => lhs; whnf
    first | (rw [map_app_of (r := rS) (l := v6) (m := ([x8.Low, x8.End] : List ByteArray)) ?hh]; case hh => exact rfl) | skip
    rw [wrap_nat i5 (by have := hn_i5; omega)]
    exact hnx7 _ _ _ _ (fun kk => by kernel_rfl) h
  · clear h
    rintro next_nx7 v6 r h
    try dsimp only at h
    have hd_i5 : (decide ((a_0.length : Int) < (a_0.length : Int))) = false := decide_eq_false (by omega)
    conv => lhs; whnf
    try (first | rw [hd_i5] | (split; (first | (rename_i hx; exact absurd (hd_i5.symm.trans hx) (by decide)) | (rotate_left; rename_i hx; exact absurd (hd_i5.symm.trans hx) (by decide)))))
    conv => lhs; whnf
    obtain ⟨hg32, h⟩ := grd_inv h
    rw [cl_eq hcl (f_sortS (e := 9) rfl rfl hg32)]
    rotate_left
    · exact rfl
    · exact rfl
    conv => lhs; whnf
    obtain ⟨y9, h_y9, h⟩ := callK_inv h
    rw [cl_eq hcl (L_slices_Compact (sortS v6) h_y9)]
    rotate_left
    · show _ = _; kernel_rfl
    · show _ = _; kernel_rfl
    conv => lhs; whnf
    refine loop_iter hlp (fun ((v10, v11) : (Int × (List Fragment))) => ([.d (.arr (a_0.map rFragment)), .dead, .dead, .sl 0, .dead, .dead, .sl 1, IN v10] ++ List.replicate 81 .dead : List V)) (fun ((v10, v11) : (Int × (List Fragment))) => ([some (.arr 9 1 (y9.map rS)), some (.arr 155 3 (v11.map rFragment))] : Fo)) (fun (r : (List Fragment)) => ((.d (.arr (r.map rFragment)) : V), ([] : Fo))) ?_ (1, ([] : List Fragment)) _ (fun kk => by kernel_rfl) h
    clear h
    rintro next_nx12 nx12 hnx12 ⟨v10, v11⟩ r h
    try dsimp only at h
    conv => lhs; whnf
    try rw [len_of (l := y9) (r := rS)]
    cases hb13 : (decide (v10 < (y9.length : Int)))
    · replace h := ifF h (decF hb13); conv => lhs; whnf
      obtain rfl := Option.some.inj h; show _ = _; kernel_rfl

    · replace h := ifT h (decT hb13); conv => lhs; whnf
      obtain ⟨x14, hq_x14, hx_x14', h⟩ := getK_inv h
      have hx_x14 := get_of (r := rS) hx_x14'
      try (rw [decide_eq_true hq_x14]; conv => lhs; whnf)
      rw [hx_x14]
      conv => lhs; whnf
      rw [hx_x14]
      conv => lhs; whnf
      obtain ⟨x15, hq_x15, hx_x15', h⟩ := getK_inv h
      have hx_x15 := get_of (r := rS) hx_x15'
      try (rw [decide_eq_true hq_x15]; conv => lhs; whnf)
      rw [hx_x15]
      conv => lhs; whnf
      rw [hx_x15]
      conv => lhs; whnf
      try rw [len_of (l := a_0) (r := rFragment)]
      obtain ⟨hl_i22, h⟩ := grd_inv h
      refine loop_for hlp (l := a_0) hl_i22 (fun (i22 : Nat) (v23 : List Int) => ([.d (.arr (a_0.map rFragment)), .dead, .dead, .sl 0, .dead, .dead, .sl 1, IN v10, .bp 2 0, .dead, .dead, .dead, .dead, .dead, .dead, .dead, .dead, .dead, .dead, .dead, .dead, .dead, .dead, .dead, .dead, .dead, .dead, .dead, .dead, .dead, .dead, .dead, .dead, .dead, .dead, .dead, .dead, .dead, .dead, .dead, .dead, .dead, .dead, .dead, .dead, .d (.arr (a_0.map rFragment)), IN (a_0.length : Int), IN (i22 : Int)] ++ List.replicate 41 .dead : List V)) (fun (i22 : Nat) (v23 : List Int) => ([some (.arr 9 1 (y9.map rS)), some (.arr 155 3 (v11.map rFragment)), some (.box [ST x14, ST x15, .sl 3]), some (.arr 2 1 (v23.map rI))] : Fo)) (fun (r : (List Fragment)) => ((.d (.arr (r.map rFragment)) : V), ([] : Fo))) ?_ ?_ ([] : List Int) _ (fun kk => by kernel_rfl) h
      · clear h
        rintro next_nx24 nx24 i22 hi_i22 hnx24 v23 r h
        try dsimp only at h
        have hn_i22 : i22 < 4611686018427387904 := by omega
        have hx_x25 := get_map rFragment a_0 i22 hi_i22
        generalize a_0[i22] = x25 at h hx_x25
        have hd_i22 : (decide ((i22 : Int) < (a_0.length : Int))) = true := decide_eq_true (by omega)
        conv => lhs; whnf
        try (first | rw [hd_i22] | (split; (first | (rename_i hx; exact absurd (hd_i22.symm.trans hx) (by decide)) | (rotate_left; rename_i hx; exact absurd (hd_i22.symm.trans hx) (by decide)))))
        conv => lhs; whnf
        try (rw [decide_eq_true hq_x25]; conv => lhs; whnf)
        rw [hx_x25]
        conv => lhs; whnf
        rw [hx_x25]
        conv => lhs; whnf
        cases hb26 : ((Op.bytesLess x25.Low.toList x14.toList) || (x25.Low.toList == x14.toList))
        · replace h := ifF h (booF hb26); conv => lhs; whnf
          try (rw [hb26]; conv => lhs; whnf)
          try (rw [hb26]; conv => lhs; whnf)
          try (rw [hb26]; conv => lhs; whnf)
          try (rw [hb26]; conv => lhs; whnf)
          try (rw [hb26]; conv => lhs; whnf)
          rw [wrap_nat i22 (by have := hn_i22; omega)]
          exact hnx24 _ _ _ _ (fun kk => by kernel_rfl) h
        · replace h := ifT h hb26; conv => lhs; whnf
          try (rw [hb26]; conv => lhs; whnf)
          try (rw [hb26]; conv => lhs; whnf)
          try (rw [hb26]; conv => lhs; whnf)
          try (rw [hb26]; conv => lhs; whnf)
          try (rw [hb26]; conv => lhs; whnf)
          cases hb27 : ((Op.bytesLess x15.toList x25.End.toList) || (x15.toList == x25.End.toList))
          · replace h := ifF h (booF hb27); conv => lhs; whnf
            rw [wrap_nat i22 (by have := hn_i22; omega)]
            exact hnx24 _ _ _ _ (fun kk => by kernel_rfl) h
          · replace h := ifT h hb27; conv => lhs; whnf
            obtain ⟨hg33, h⟩ := grd_inv h
            rw [app_eq hg33 ?h1 ?h2]
            case h1 => first | exact rfl | (simp only [List.length_map, List.length_cons, List.length_nil]; done) | (rw [List.length_map]; rfl)
            case h2 => exact rfl
            conv => lhs; whnf
            rw [allLen_map rI _ rI_len]
            conv => lhs; whnf
            first | (rw [map_app_of (r := rI) (l := v23) (m := x25.Seqs) ?hh]; case hh => exact rfl) | skip
            rw [wrap_nat i22 (by have := hn_i22; omega)]
            exact hnx24 _ _ _ _ (fun kk => by kernel_rfl) h
      · clear h
        rintro next_nx24 v23 r h
        try dsimp only at h
        have hd_i22 : (decide ((a_0.length : Int) < (a_0.length : Int))) = false := decide_eq_false (by omega)
        conv => lhs; whnf
        try (first | rw [hd_i22] | (split; (first | (rename_i hx; exact absurd (hd_i22.symm.trans hx) (by decide)) | (rotate_left; rename_i hx; exact absurd (hd_i22.symm.trans hx) (by decide)))))
        conv => lhs; whnf
        obtain ⟨hg34, h⟩ := grd_inv h
        rw [cl_eq hcl (f_sortI (e := 2) rfl rfl hg34)]
        rotate_left
        · exact rfl
        · exact rfl
        conv => lhs; whnf
        obtain ⟨y28, h_y28, h⟩ := callK_inv h
        rw [cl_eq hcl (L_slices_Compact' (sortI v23) h_y28)]
        rotate_left
        · show _ = _; kernel_rfl
        · show _ = _; kernel_rfl
        conv => lhs; whnf
        obtain ⟨y29, h_y29, h⟩ := callK_inv h
        rw [cl_eq hcl (L_slices_Reverse y28 h_y29)]
        rotate_left
        · show _ = _; kernel_rfl
        · show _ = _; kernel_rfl
        conv => lhs; whnf
        try rw [len_of (l := y29) (r := rI)]
        cases hb30 : (decide ((y29.length : Int) > 0))
        · replace h := ifF h (decF hb30); conv => lhs; whnf
          exact hnx12 _ _ _ _ (fun kk => by kernel_rfl) h
        · replace h := ifT h (decT hb30); conv => lhs; whnf
          obtain ⟨hg35, h⟩ := grd_inv h
          rw [app_eq hg35 ?h1 ?h2]
          case h1 => first | exact rfl | (simp only [List.length_map, List.length_cons, List.length_nil]; done) | (rw [List.length_map]; rfl)
          case h2 => exact rfl
          conv => lhs; whnf
          first | (rw [map_app_of (r := rFragment) (l := v11) (m := ([(⟨x14, x15, y29⟩ : Fragment)] : List Fragment)) ?hh]; case hh => exact rfl) | skip
          exact hnx12 _ _ _ _ (fun kk => by kernel_rfl) h

noncomputable def p_impl_fragmentsOf (a_0 : List Record) : Option (List Fragment) :=
  grd (a_0.length < 4611686018427387904) <|
  forK a_0 (fun (i7 : Nat) x10 (v8 : List Fragment) (nx9 : (List Fragment) → Option _) =>
    callK (p_impl_isRange x10) fun y11 =>
    if y11 = true then
      grd (appOk (v8.length + 1) 56 = true) <|
      nx9 (v8 ++ ([(⟨x10.Key, x10.End, ([x10.Seq] : List Int)⟩ : Fragment)] : List Fragment))
    else
      nx9 v8) ([] : List Fragment) (fun (v8 : List Fragment) =>
    callK (p_impl_split v8) fun y13 =>
    some y13)

set_option maxHeartbeats 4000000 in
theorem L_impl_fragmentsOf (a_0 : List Record) {r : (List Fragment)} (h : p_impl_fragmentsOf a_0 = some r) : callL E 116 [.d (.arr (a_0.map rRecord))] ([] : Fo) = some (.d (.arr (r.map rFragment)), ([] : Fo)) := by
  unfold p_impl_fragmentsOf at h
  refine callW (fu := Try.f116) rfl rfl rfl NN ?_
  intro lp cl hlp hcl
  conv => lhs; whnf
  try rw [len_of (l := a_0) (r := rRecord)]
  obtain ⟨hl_i7, h⟩ := grd_inv h
  refine loop_for hlp (l := a_0) hl_i7 (fun (i7 : Nat) (v8 : List Fragment) => ([.dead, .dead, .dead, .sl 0, .dead, .dead, .d (.arr (a_0.map rRecord)), IN (a_0.length : Int), IN (i7 : Int)] ++ List.replicate 19 .dead : List V)) (fun (i7 : Nat) (v8 : List Fragment) => ([some (.arr 155 3 (v8.map rFragment))] : Fo)) (fun (r : (List Fragment)) => ((.d (.arr (r.map rFragment)) : V), ([] : Fo))) ?_ ?_ ([] : List Fragment) _ (fun kk => by kernel_rfl) h
  · clear h
    rintro next_nx9 nx9 i7 hi_i7 hnx9 v8 r h
    try dsimp only at h
    have hn_i7 : i7 < 4611686018427387904 := by omega
    have hx_x10 := get_map rRecord a_0 i7 hi_i7
    generalize a_0[i7] = x10 at h hx_x10
    have hd_i7 : (decide ((i7 : Int) < (a_0.length : Int))) = true := decide_eq_true (by omega)
    conv => lhs; whnf
    try (first | rw [hd_i7] | (split; (first | (rename_i hx; exact absurd (hd_i7.symm.trans hx) (by decide)) | (rotate_left; rename_i hx; exact absurd (hd_i7.symm.trans hx) (by decide)))))
    conv => lhs; whnf
    try (rw [decide_eq_true hq_x10]; conv => lhs; whnf)
    rw [hx_x10]
    conv => lhs; whnf
    rw [hx_x10]
    conv => lhs; whnf
    obtain ⟨y11, h_y11, h⟩ := callK_inv h
    rw [cl_eq hcl (L_impl_isRange x10 h_y11)]
    rotate_left
    · show _ = _; kernel_rfl
    · show _ = _; kernel_rfl
    conv => lhs; whnf
    cases hb12 : y11
    · replace h := ifF h (booF hb12); conv => lhs; whnf
      rw [wrap_nat i7 (by have := hn_i7; omega)]
      exact hnx9 _ _ _ _ (fun kk => by kernel_rfl) h
    · replace h := ifT h hb12; conv => lhs; whnf
      obtain ⟨hg14, h⟩ := grd_inv h
      rw [app_eq hg14 ?h1 ?h2]
      case h1 => first | exact rfl | (simp only [List.length_map, List.length_cons, List.length_nil]; done) | (rw [List.length_map]; rfl)
      case h2 => exact rfl
      conv => lhs; whnf
      first | (rw [map_app_of (r := rFragment) (l := v8) (m := ([(⟨x10.Key, x10.End, ([x10.Seq] : List Int)⟩ : Fragment)] : List Fragment)) ?hh]; case hh => exact rfl) | skip
      rw [wrap_nat i7 (by have := hn_i7; omega)]
      exact hnx9 _ _ _ _ (fun kk => by kernel_rfl) h
  · clear h
    rintro next_nx9 v8 r h
    try dsimp only at h
    have hd_i7 : (decide ((a_0.length : Int) < (a_0.length : Int))) = false := decide_eq_false (by omega)
    conv => lhs; whnf
    try (first | rw [hd_i7] | (split; (first | (rename_i hx; exact absurd (hd_i7.symm.trans hx) (by decide)) | (rotate_left; rename_i hx; exact absurd (hd_i7.symm.trans hx) (by decide)))))
    conv => lhs; whnf
    obtain ⟨y13, h_y13, h⟩ := callK_inv h
    rw [cl_eq hcl (L_impl_split v8 h_y13)]
    rotate_left
    · show _ = _; kernel_rfl
    · show _ = _; kernel_rfl
    conv => lhs; whnf
    obtain rfl := Option.some.inj h; show _ = _; kernel_rfl


noncomputable def p_impl_FragmentsOf (a_0 : List Record) : Option (List Fragment) :=
  callK (p_impl_ValidRun a_0) fun y1 =>
  if y1 = true then
    if (a_0.length : Int) > 60 then
      some ([] : List Fragment)
    else
      callK (p_impl_fragmentsOf a_0) fun y4 =>
      some y4
  else
    some ([] : List Fragment)

set_option maxHeartbeats 4000000 in
theorem L_impl_FragmentsOf (a_0 : List Record) {r : (List Fragment)} (h : p_impl_FragmentsOf a_0 = some r) : callL E 39 [.d (.arr (a_0.map rRecord))] ([] : Fo) = some (.d (.arr (r.map rFragment)), ([] : Fo)) := by
  unfold p_impl_FragmentsOf at h
  refine callW (fu := Try.f39) rfl rfl rfl NN ?_
  intro lp cl hlp hcl
  conv => lhs; whnf
  obtain ⟨y1, h_y1, h⟩ := callK_inv h
  rw [cl_eq hcl (L_impl_ValidRun a_0 h_y1)]
  rotate_left
  · show _ = _; kernel_rfl
  · show _ = _; kernel_rfl
  conv => lhs; whnf
  cases hb2 : y1
  · replace h := ifF h (booF hb2); conv => lhs; whnf
    try (rw [hb2]; conv => lhs; whnf)
    try (rw [hb2]; conv => lhs; whnf)
    try (rw [hb2]; conv => lhs; whnf)
    obtain rfl := Option.some.inj h; show _ = _; kernel_rfl

  · replace h := ifT h hb2; conv => lhs; whnf
    try (rw [hb2]; conv => lhs; whnf)
    try rw [len_of (l := a_0) (r := rRecord)]
    try (rw [hb2]; conv => lhs; whnf)
    try (rw [hb2]; conv => lhs; whnf)
    cases hb3 : (decide ((a_0.length : Int) > 60))
    · replace h := ifF h (decF hb3); conv => lhs; whnf
      obtain ⟨y4, h_y4, h⟩ := callK_inv h
      rw [cl_eq hcl (L_impl_fragmentsOf a_0 h_y4)]
      rotate_left
      · show _ = _; kernel_rfl
      · show _ = _; kernel_rfl
      conv => lhs; whnf
      obtain rfl := Option.some.inj h; show _ = _; kernel_rfl

    · replace h := ifT h (decT hb3); conv => lhs; whnf
      obtain rfl := Option.some.inj h; show _ = _; kernel_rfl


noncomputable def p_laws_a8At (a_0 : List Int) (a_1 : Int) (a_2 : Int) : Option Int :=
  if a_2 ≤ 1 then
    some 0
  else
    grd (a_0.length < 4611686018427387904) <|
    forK a_0 (fun (i6 : Nat) x9 (v7 : Int) (nx8 : Int → Option _) =>
      nx8 (Int.tmod (IntKind.i64.wrap ((IntKind.i64.wrap (v7 * 31)) + (IntKind.i64.wrap x9))) 1000003)) (IntKind.i64.wrap ((IntKind.i64.wrap (a_1 * 7)) + 3)) (fun (v7 : Int) =>
      grd (a_2 ≠ 0) <|
      some (Int.tmod v7 a_2))

set_option maxHeartbeats 4000000 in
theorem L_laws_a8At (a_0 : List Int) (a_1 : Int) (a_2 : Int) {r : Int} (h : p_laws_a8At a_0 a_1 a_2 = some r) : callL E 61 [.d (.arr (a_0.map rU)), IN a_1, IN a_2] ([] : Fo) = some (IN r, ([] : Fo)) := by
  unfold p_laws_a8At at h
  refine callW (fu := Try.f61) rfl rfl rfl NN ?_
  intro lp cl hlp hcl
  conv => lhs; whnf
  cases hb1 : (decide (a_2 ≤ 1))
  · replace h := ifF h (decF hb1); conv => lhs; whnf
    obtain ⟨hl_i6, h⟩ := grd_inv h
    refine loop_for hlp (l := a_0) hl_i6 (fun (i6 : Nat) (v7 : Int) => ([.d (.arr (a_0.map rU)), .dead, IN a_2, .dead, .dead, .dead, .dead, IN v7, IN (i6 : Int)] ++ List.replicate 23 .dead : List V)) (fun (i6 : Nat) (v7 : Int) => ([] : Fo)) (fun (r : Int) => ((IN r : V), ([] : Fo))) ?_ ?_ (IntKind.i64.wrap ((IntKind.i64.wrap (a_1 * 7)) + 3)) _ (fun kk => by kernel_rfl) h
    · clear h
      rintro next_nx8 nx8 i6 hi_i6 hnx8 v7 r h
      try dsimp only at h
      have hn_i6 : i6 < 4611686018427387904 := by omega
      have hx_x9 := get_map rU a_0 i6 hi_i6
      generalize a_0[i6] = x9 at h hx_x9
      have hd_i6 : (decide ((i6 : Int) < (a_0.length : Int))) = true := decide_eq_true (by omega)
      conv => lhs; whnf
      try rw [len_of (l := a_0) (r := rU)]
      try (first | rw [hd_i6] | (split; (first | (rename_i hx; exact absurd (hd_i6.symm.trans hx) (by decide)) | (rotate_left; rename_i hx; exact absurd (hd_i6.symm.trans hx) (by decide)))))
      conv => lhs; whnf
      try (rw [decide_eq_true hq_x9]; conv => lhs; whnf)
      rw [hx_x9]
      conv => lhs; whnf
      rw [hx_x9]
      conv => lhs; whnf
      try (rw [rem_run _ _ _ 1000003 (by decide)]; conv => lhs; whnf)
      conv => lhs; whnf
      rw [wrap_nat i6 (by have := hn_i6; omega)]
      exact hnx8 _ _ _ _ (fun kk => by kernel_rfl) h
    · clear h
      rintro next_nx8 v7 r h
      try dsimp only at h
      have hd_i6 : (decide ((a_0.length : Int) < (a_0.length : Int))) = false := decide_eq_false (by omega)
      conv => lhs; whnf
      try rw [len_of (l := a_0) (r := rU)]
      try (first | rw [hd_i6] | (split; (first | (rename_i hx; exact absurd (hd_i6.symm.trans hx) (by decide)) | (rotate_left; rename_i hx; exact absurd (hd_i6.symm.trans hx) (by decide)))))
      conv => lhs; whnf
      obtain ⟨hg10, h⟩ := grd_inv h
      rw [rem_run _ _ _ _ hg10]
      conv => lhs; whnf
      obtain rfl := Option.some.inj h; show _ = _; kernel_rfl

  · replace h := ifT h (decT hb1); conv => lhs; whnf
    obtain rfl := Option.some.inj h; show _ = _; kernel_rfl


noncomputable def p_laws_a8Mix (a_0 : List Int) (a_1 : Int) : Option (List Int) :=
  callK (p_laws_a8At a_0 a_1 256) fun y1 =>
  grd (appOk (2 + a_0.length) 1 = true) <|
  some (([(IntKind.u8.wrap a_1), (IntKind.u8.wrap y1)] : List Int) ++ a_0)

set_option maxHeartbeats 4000000 in
theorem L_laws_a8Mix (a_0 : List Int) (a_1 : Int) {r : (List Int)} (h : p_laws_a8Mix a_0 a_1 = some r) : callL E 14 [.d (.arr (a_0.map rU)), IN a_1] ([] : Fo) = some (.d (.arr (r.map rU)), ([] : Fo)) := by
  unfold p_laws_a8Mix at h
  refine callW (fu := Try.f14) rfl rfl rfl NN ?_
  intro lp cl hlp hcl
  conv => lhs; whnf
  obtain ⟨y1, h_y1, h⟩ := callK_inv h
  rw [cl_eq hcl (L_laws_a8At a_0 a_1 256 h_y1)]
  rotate_left
  · show _ = _; kernel_rfl
  · show _ = _; kernel_rfl
  conv => lhs; whnf
  obtain ⟨hg2, h⟩ := grd_inv h
  rw [app_eq hg2 ?h1 ?h2]
  case h1 => first | exact rfl | (simp only [List.length_map, List.length_cons, List.length_nil]; done) | (rw [List.length_map]; rfl)
  case h2 => exact rfl
  conv => lhs; whnf
  rw [allLen_map rU _ rU_len]
  conv => lhs; whnf
  first | (rw [map_app_of (r := rU) (l := ([(IntKind.u8.wrap a_1), (IntKind.u8.wrap y1)] : List Int)) (m := a_0) ?hh]; case hh => exact rfl) | skip
  obtain rfl := Option.some.inj h; show _ = _; kernel_rfl


noncomputable def p_spec_l23DrawSnapshots (a_0 : Sl00Src) : Option ((List Int) × Sl00Src) :=
  callK (p_spec_l00Src_pick 3 a_0) fun y1 =>
  callK (p_spec_l00Src_pick 4 y1.2) fun y2 =>
  iterK (fun ((v3, v4, v5, v6) : (Int × Int × Sl00Src × (List Int))) (nx7 : (Int × Int × Sl00Src × (List Int)) → Option _) =>
    if v4 > 0 then
      grd (appOk (v6.length + 1) 8 = true) <|
      callK (p_spec_l00Src_pick 6 v5) fun y9 =>
      nx7 ((IntKind.i64.wrap (v3 + (IntKind.i64.wrap (1 + y9.1)))), (IntKind.i64.wrap (v4 - 1)), y9.2, (v6 ++ ([v3] : List Int)))
    else
      callK (p_spec_l00Src_one 12 v5) fun y10 =>
      if y10.1 = true then
        callK (p_spec_l00Src_among ([(-1), 3, 1000000, 1000001] : List Int) y10.2) fun y12 =>
        grd (appOk (v6.length + 1) 8 = true) <|
        some ((v6 ++ ([y12.1] : List Int)), y12.2)
      else
        some (v6, y10.2)) NN (y1.1, y2.1, y2.2, ([] : List Int))

set_option maxHeartbeats 4000000 in
theorem L_spec_l23DrawSnapshots (a_0 : Sl00Src) {r : ((List Int) × Sl00Src)} (h : p_spec_l23DrawSnapshots a_0 = some r) : callL E 118 [.bp 0 0] ([some (.box [.d (.arr (a_0.Code.map rU)), IN a_0.At, .d (.lit (.int .u64 a_0.Seed))])] : Fo) = some (.d (.arr (r.1.map rI)), ([some (.box [.d (.arr (r.2.Code.map rU)), IN r.2.At, .d (.lit (.int .u64 r.2.Seed))])] : Fo)) := by
  unfold p_spec_l23DrawSnapshots at h
  refine callW (fu := Try.f118) rfl rfl rfl NN ?_
  intro lp cl hlp hcl
  conv => lhs; whnf
  obtain ⟨y1, h_y1, h⟩ := callK_inv h
  rw [cl_eq hcl (L_spec_l00Src_pick 3 a_0 h_y1)]
  rotate_left
  · show _ = _; kernel_rfl
  · show _ = _; kernel_rfl
  conv => lhs; whnf
  obtain ⟨y2, h_y2, h⟩ := callK_inv h
  rw [cl_eq hcl (L_spec_l00Src_pick 4 y1.2 h_y2)]
  rotate_left
  · show _ = _; kernel_rfl
  · show _ = _; kernel_rfl
  conv => lhs; whnf
  refine loop_iter hlp (fun ((v3, v4, v5, v6) : (Int × Int × Sl00Src × (List Int))) => ([.bp 0 0, .dead, .dead, .sl 1, IN v3, IN v4] ++ List.replicate 29 .dead : List V)) (fun ((v3, v4, v5, v6) : (Int × Int × Sl00Src × (List Int))) => ([some (.box [.d (.arr (v5.Code.map rU)), IN v5.At, .d (.lit (.int .u64 v5.Seed))]), some (.arr 2 1 (v6.map rI))] : Fo)) (fun (r : ((List Int) × Sl00Src)) => ((.d (.arr (r.1.map rI)) : V), ([some (.box [.d (.arr (r.2.Code.map rU)), IN r.2.At, .d (.lit (.int .u64 r.2.Seed))])] : Fo))) ?_ (y1.1, y2.1, y2.2, ([] : List Int)) _ (fun kk => by kernel_rfl) h
  clear h
  rintro next_nx7 nx7 hnx7 ⟨v3, v4, v5, v6⟩ r h
  try dsimp only at h
  conv => lhs; whnf
  cases hb8 : (decide (v4 > 0))
  · replace h := ifF h (decF hb8); conv => lhs; whnf
    obtain ⟨y10, h_y10, h⟩ := callK_inv h
    rw [cl_eq hcl (L_spec_l00Src_one 12 v5 h_y10)]
    rotate_left
    · show _ = _; kernel_rfl
    · show _ = _; kernel_rfl
    conv => lhs; whnf
    cases hb11 : y10.1
    · replace h := ifF h (booF hb11); conv => lhs; whnf
      obtain rfl := Option.some.inj h; show _ = _; kernel_rfl

    · replace h := ifT h hb11; conv => lhs; whnf
      obtain ⟨y12, h_y12, h⟩ := callK_inv h
      rw [cl_eq hcl (L_spec_l00Src_among ([(-1), 3, 1000000, 1000001] : List Int) y10.2 h_y12)]
      rotate_left
      · show _ = _; kernel_rfl
      · show _ = _; kernel_rfl
      conv => lhs; whnf
      obtain ⟨hg13, h⟩ := grd_inv h
      rw [app_eq hg13 ?h1 ?h2]
      case h1 => first | exact rfl | (simp only [List.length_map, List.length_cons, List.length_nil]; done) | (rw [List.length_map]; rfl)
      case h2 => exact rfl
      conv => lhs; whnf
      first | (rw [map_app_of (r := rI) (l := v6) (m := ([y12.1] : List Int)) ?hh]; case hh => exact rfl) | skip
      obtain rfl := Option.some.inj h; show _ = _; kernel_rfl

  · replace h := ifT h (decT hb8); conv => lhs; whnf
    obtain ⟨hg14, h⟩ := grd_inv h
    rw [app_eq hg14 ?h1 ?h2]
    case h1 => first | exact rfl | (simp only [List.length_map, List.length_cons, List.length_nil]; done) | (rw [List.length_map]; rfl)
    case h2 => exact rfl
    conv => lhs; whnf
    first | (rw [map_app_of (r := rI) (l := v6) (m := ([v3] : List Int)) ?hh]; case hh => exact rfl) | skip
    obtain ⟨y9, h_y9, h⟩ := callK_inv h
    rw [cl_eq hcl (L_spec_l00Src_pick 6 v5 h_y9)]
    rotate_left
    · show _ = _; kernel_rfl
    · show _ = _; kernel_rfl
    conv => lhs; whnf
    exact hnx7 _ _ _ _ (fun kk => by kernel_rfl) h

noncomputable def p_spec_l23Snapshots (a_0 : List Int) : Option Bool :=
  grd (a_0.length < 4611686018427387904) <|
  forK a_0 (fun (i8 : Nat) x10 (_ : Unit) (nx9 : Unit → Option _) =>
    if (inR x10 0 1000000) = true then
      if (i8 : Int) > 0 then
        getK a_0 (IntKind.i64.wrap ((i8 : Int) - 1)) fun x13 =>
        if x13 ≥ x10 then
          some false
        else
          nx9 ()
      else
        nx9 ()
    else
      some false) () (fun (_ : Unit) =>
    some (decide ((a_0.length : Int) ≤ 4)))

set_option maxHeartbeats 4000000 in
theorem L_spec_l23Snapshots (a_0 : List Int) {r : Bool} (h : p_spec_l23Snapshots a_0 = some r) : callL E 119 [.d (.arr (a_0.map rI))] ([] : Fo) = some (BO r, ([] : Fo)) := by
  unfold p_spec_l23Snapshots at h
  refine callW (fu := Try.f119) rfl rfl rfl NN ?_
  intro lp cl hlp hcl
  conv => lhs; whnf
  obtain ⟨hl_i8, h⟩ := grd_inv h
  refine loop_for hlp (l := a_0) hl_i8 (fun (i8 : Nat) (_ : Unit) => ([.d (.arr (a_0.map rI)), .dead, .dead, IN (i8 : Int)] ++ List.replicate 31 .dead : List V)) (fun (i8 : Nat) (_ : Unit) => ([] : Fo)) (fun (r : Bool) => ((BO r : V), ([] : Fo))) ?_ ?_ () _ (fun kk => by kernel_rfl) h
  · clear h
    rintro next_nx9 nx9 i8 hi_i8 hnx9 ⟨⟩ r h
    try dsimp only at h
    have hn_i8 : i8 < 4611686018427387904 := by omega
    have hx_x10 := get_map rI a_0 i8 hi_i8
    generalize a_0[i8] = x10 at h hx_x10
    have hd_i8 : (decide ((i8 : Int) < (a_0.length : Int))) = true := decide_eq_true (by omega)
    conv => lhs; whnf
    try rw [len_of (l := a_0) (r := rI)]
    try (first | rw [hd_i8] | (split; (first | (rename_i hx; exact absurd (hd_i8.symm.trans hx) (by decide)) | (rotate_left; rename_i hx; exact absurd (hd_i8.symm.trans hx) (by decide)))))
    conv => lhs; whnf
    try (rw [decide_eq_true hq_x10]; conv => lhs; whnf)
    rw [hx_x10]
    conv => lhs; whnf
    rw [hx_x10]
    conv => lhs; whnf
    rw [cl_eq hcl (L_spec_l00In x10 0 1000000 (pl_l00In x10 0 1000000))]
    rotate_left
    · show _ = _; kernel_rfl
    · show _ = _; kernel_rfl
    conv => lhs; whnf
    cases hb11 : (inR x10 0 1000000)
    · replace h := ifF h (booF hb11); conv => lhs; whnf
      try (rw [hb11]; conv => lhs; whnf)
      try (rw [hb11]; conv => lhs; whnf)
      try (rw [hb11]; conv => lhs; whnf)
      try (rw [hb11]; conv => lhs; whnf)
      obtain rfl := Option.some.inj h; show _ = _; kernel_rfl

    · replace h := ifT h hb11; conv => lhs; whnf
      try (rw [hb11]; conv => lhs; whnf)
      try (rw [hb11]; conv => lhs; whnf)
      cases hb12 : (decide ((i8 : Int) > 0))
      · replace h := ifF h (decF hb12); conv => lhs; whnf
        try (rw [hb12]; conv => lhs; whnf)
        try (rw [hb12]; conv => lhs; whnf)
        try (rw [hb12]; conv => lhs; whnf)
        try (rw [hb12]; conv => lhs; whnf)
        try (rw [hb12]; conv => lhs; whnf)
        try (rw [hb12]; conv => lhs; whnf)
        try (rw [hb12]; conv => lhs; whnf)
        try (rw [hb12]; conv => lhs; whnf)
        try (rw [hb12]; conv => lhs; whnf)
        try (rw [hb11]; conv => lhs; whnf)
        try (rw [hb12]; conv => lhs; whnf)
        try (rw [hb11]; conv => lhs; whnf)
        rw [wrap_nat i8 (by have := hn_i8; omega)]
        exact hnx9 _ _ _ _ (fun kk => by kernel_rfl) h
      · replace h := ifT h (decT hb12); conv => lhs; whnf
        try (rw [hb12]; conv => lhs; whnf)
        try (rw [hb12]; conv => lhs; whnf)
        try (rw [hb12]; conv => lhs; whnf)
        obtain ⟨x13, hq_x13, hx_x13', h⟩ := getK_inv h
        have hx_x13 := get_of (r := rI) hx_x13'
        try (rw [decide_eq_true hq_x13]; conv => lhs; whnf)
        rw [hx_x13]
        conv => lhs; whnf
        try (rw [hb12]; conv => lhs; whnf)
        rw [hx_x13]
        conv => lhs; whnf
        try (rw [hb12]; conv => lhs; whnf)
        try (rw [hb12]; conv => lhs; whnf)
        try (rw [hb12]; conv => lhs; whnf)
        try (rw [decide_eq_true hq_x10]; conv => lhs; whnf)
        rw [hx_x10]
        conv => lhs; whnf
        try (rw [hb12]; conv => lhs; whnf)
        rw [hx_x10]
        conv => lhs; whnf
        try (rw [hb12]; conv => lhs; whnf)
        try (rw [hb11]; conv => lhs; whnf)
        try (rw [hb12]; conv => lhs; whnf)
        try (rw [hb11]; conv => lhs; whnf)
        cases hb14 : (decide (x13 ≥ x10))
        · replace h := ifF h (decF hb14); conv => lhs; whnf
          rw [wrap_nat i8 (by have := hn_i8; omega)]
          exact hnx9 _ _ _ _ (fun kk => by kernel_rfl) h
        · replace h := ifT h (decT hb14); conv => lhs; whnf
          obtain rfl := Option.some.inj h; show _ = _; kernel_rfl

  · clear h
    rintro next_nx9 ⟨⟩ r h
    try dsimp only at h
    have hd_i8 : (decide ((a_0.length : Int) < (a_0.length : Int))) = false := decide_eq_false (by omega)
    conv => lhs; whnf
    try rw [len_of (l := a_0) (r := rI)]
    try (first | rw [hd_i8] | (split; (first | (rename_i hx; exact absurd (hd_i8.symm.trans hx) (by decide)) | (rotate_left; rename_i hx; exact absurd (hd_i8.symm.trans hx) (by decide)))))
    conv => lhs; whnf
    try rw [len_of (l := a_0) (r := rI)]
    obtain rfl := Option.some.inj h; show _ = _; kernel_rfl


noncomputable def p_spec_A8Snapshots (a_0 : List Int) : Option (List Int) :=
  callK (p_spec_l00From a_0) fun y1 =>
  callK (p_spec_l23DrawSnapshots y1) fun y2 =>
  callK (p_spec_l23Snapshots y2.1) fun y3 =>
  if y3 = true then
    some y2.1
  else
    some ([] : List Int)

set_option maxHeartbeats 4000000 in
theorem L_spec_A8Snapshots (a_0 : List Int) {r : (List Int)} (h : p_spec_A8Snapshots a_0 = some r) : callL E 41 [.d (.arr (a_0.map rU))] ([] : Fo) = some (.d (.arr (r.map rI)), ([] : Fo)) := by
  unfold p_spec_A8Snapshots at h
  refine callW (fu := Try.f41) rfl rfl rfl NN ?_
  intro lp cl hlp hcl
  conv => lhs; whnf
  obtain ⟨y1, h_y1, h⟩ := callK_inv h
  rw [cl_eq hcl (L_spec_l00From a_0 h_y1)]
  rotate_left
  · show _ = _; kernel_rfl
  · show _ = _; kernel_rfl
  conv => lhs; whnf
  obtain ⟨y2, h_y2, h⟩ := callK_inv h
  rw [cl_eq hcl (L_spec_l23DrawSnapshots y1 h_y2)]
  rotate_left
  · show _ = _; kernel_rfl
  · show _ = _; kernel_rfl
  conv => lhs; whnf
  obtain ⟨y3, h_y3, h⟩ := callK_inv h
  rw [cl_eq hcl (L_spec_l23Snapshots y2.1 h_y3)]
  rotate_left
  · show _ = _; kernel_rfl
  · show _ = _; kernel_rfl
  conv => lhs; whnf
  cases hb4 : y3
  · replace h := ifF h (booF hb4); conv => lhs; whnf
    obtain rfl := Option.some.inj h; show _ = _; kernel_rfl

  · replace h := ifT h hb4; conv => lhs; whnf
    obtain rfl := Option.some.inj h; show _ = _; kernel_rfl


noncomputable def p_impl_decreasing (a_0 : List Int) : Option Bool :=
  iterK (fun (v1 : Int) (nx2 : Int → Option _) =>
    if v1 < (a_0.length : Int) then
      getK a_0 v1 fun x4 =>
      getK a_0 (IntKind.i64.wrap (v1 - 1)) fun x5 =>
      if x4 ≥ x5 then
        some false
      else
        nx2 (IntKind.i64.wrap (v1 + 1))
    else
      some true) NN 1

set_option maxHeartbeats 4000000 in
theorem L_impl_decreasing (a_0 : List Int) {r : Bool} (h : p_impl_decreasing a_0 = some r) : callL E 210 [.d (.arr (a_0.map rI))] ([] : Fo) = some (BO r, ([] : Fo)) := by
  unfold p_impl_decreasing at h
  refine callW (fu := Try.f210) rfl rfl rfl NN ?_
  intro lp cl hlp hcl
  conv => lhs; whnf
  refine loop_iter hlp (fun (v1 : Int) => ([.d (.arr (a_0.map rI)), .dead, .dead, IN v1] ++ List.replicate 16 .dead : List V)) (fun (v1 : Int) => ([] : Fo)) (fun (r : Bool) => ((BO r : V), ([] : Fo))) ?_ 1 _ (fun kk => by kernel_rfl) h
  clear h
  rintro next_nx2 nx2 hnx2 v1 r h
  try dsimp only at h
  conv => lhs; whnf
  try rw [len_of (l := a_0) (r := rI)]
  cases hb3 : (decide (v1 < (a_0.length : Int)))
  · replace h := ifF h (decF hb3); conv => lhs; whnf
    obtain rfl := Option.some.inj h; show _ = _; kernel_rfl

  · replace h := ifT h (decT hb3); conv => lhs; whnf
    obtain ⟨x4, hq_x4, hx_x4', h⟩ := getK_inv h
    have hx_x4 := get_of (r := rI) hx_x4'
    try (rw [decide_eq_true hq_x4]; conv => lhs; whnf)
    rw [hx_x4]
    conv => lhs; whnf
    rw [hx_x4]
    conv => lhs; whnf
    obtain ⟨x5, hq_x5, hx_x5', h⟩ := getK_inv h
    have hx_x5 := get_of (r := rI) hx_x5'
    try (rw [decide_eq_true hq_x5]; conv => lhs; whnf)
    rw [hx_x5]
    conv => lhs; whnf
    rw [hx_x5]
    conv => lhs; whnf
    cases hb6 : (decide (x4 ≥ x5))
    · replace h := ifF h (decF hb6); conv => lhs; whnf
      exact hnx2 _ _ _ _ (fun kk => by kernel_rfl) h
    · replace h := ifT h (decT hb6); conv => lhs; whnf
      obtain rfl := Option.some.inj h; show _ = _; kernel_rfl


noncomputable def p_impl_allWithin_c1 (a_0 : Int) (a_1 : Int) (a_2 : Int) : Option Bool :=
  some (!(inR a_0 a_1 a_2))

set_option maxHeartbeats 4000000 in
theorem L_impl_allWithin_c1 (a_0 : Int) (a_1 : Int) (a_2 : Int) {r : Bool} (h : p_impl_allWithin_c1 a_0 a_1 a_2 = some r) : callL E 268 [IN a_0, .bp 0 0, .bp 1 0] ([some (.box [IN a_1]), some (.box [IN a_2])] : Fo) = some (BO r, ([some (.box [IN a_1]), some (.box [IN a_2])] : Fo)) := by
  unfold p_impl_allWithin_c1 at h
  refine callW (fu := Try.f268) rfl rfl rfl NN ?_
  intro lp cl hlp hcl
  conv => lhs; whnf
  rw [cl_eq hcl (L_impl_within a_0 a_1 a_2 (pl_within a_0 a_1 a_2))]
  rotate_left
  · show _ = _; kernel_rfl
  · show _ = _; kernel_rfl
  conv => lhs; whnf
  obtain rfl := Option.some.inj h; show _ = _; kernel_rfl


noncomputable def p_slices_IndexFunc_impl_allWithin_c1 (a_0 : List Int) (a_1 : Int) (a_2 : Int) : Option Int :=
  grd (a_0.length < 4611686018427387904) <|
  forK a_0 (fun (i6 : Nat) x8 (_ : Unit) (nx7 : Unit → Option _) =>
    callK (p_impl_allWithin_c1 x8 a_1 a_2) fun y9 =>
    if y9 = true then
      some (i6 : Int)
    else
      nx7 ()) () (fun (_ : Unit) =>
    some (-1))

set_option maxHeartbeats 4000000 in
theorem L_slices_IndexFunc_impl_allWithin_c1 (a_0 : List Int) (a_1 : Int) (a_2 : Int) {r : Int} (h : p_slices_IndexFunc_impl_allWithin_c1 a_0 a_1 a_2 = some r) : callL E 209 [.d (.arr (a_0.map rI)), .clo 268 [.bp 0 0, .bp 1 0]] ([some (.box [IN a_1]), some (.box [IN a_2])] : Fo) = some (IN r, ([some (.box [IN a_1]), some (.box [IN a_2])] : Fo)) := by
  unfold p_slices_IndexFunc_impl_allWithin_c1 at h
  refine callW (fu := Try.f209) rfl rfl rfl NN ?_
  intro lp cl hlp hcl
  conv => lhs; whnf
  try rw [len_of (l := a_0) (r := rI)]
  obtain ⟨hl_i6, h⟩ := grd_inv h
  refine loop_for hlp (l := a_0) hl_i6 (fun (i6 : Nat) (_ : Unit) => ([.d (.arr (a_0.map rI)), .clo 268 [.bp 0 0, .bp 1 0], .dead, .dead, .dead, .dead, .dead, IN (a_0.length : Int), IN (i6 : Int)] ++ List.replicate 10 .dead : List V)) (fun (i6 : Nat) (_ : Unit) => ([some (.box [IN a_1]), some (.box [IN a_2])] : Fo)) (fun (r : Int) => ((IN r : V), ([some (.box [IN a_1]), some (.box [IN a_2])] : Fo))) ?_ ?_ () _ (fun kk => by kernel_rfl) h
  · clear h
    rintro next_nx7 nx7 i6 hi_i6 hnx7 ⟨⟩ r h
    try dsimp only at h
    have hn_i6 : i6 < 4611686018427387904 := by omega
    have hx_x8 := get_map rI a_0 i6 hi_i6
    generalize a_0[i6] = x8 at h hx_x8
    have hd_i6 : (decide ((i6 : Int) < (a_0.length : Int))) = true := decide_eq_true (by omega)
    conv => lhs; whnf
    try (first | rw [hd_i6] | (split; (first | (rename_i hx; exact absurd (hd_i6.symm.trans hx) (by decide)) | (rotate_left; rename_i hx; exact absurd (hd_i6.symm.trans hx) (by decide)))))
    conv => lhs; whnf
    try (rw [decide_eq_true hq_x8]; conv => lhs; whnf)
    rw [hx_x8]
    conv => lhs; whnf
    rw [hx_x8]
    conv => lhs; whnf
    obtain ⟨y9, h_y9, h⟩ := callK_inv h
    rw [cl_eq hcl (L_impl_allWithin_c1 x8 a_1 a_2 h_y9)]
    rotate_left
    · show _ = _; kernel_rfl
    · show _ = _; kernel_rfl
    conv => lhs; whnf
    cases hb10 : y9
    · replace h := ifF h (booF hb10); conv => lhs; whnf
      rw [wrap_nat i6 (by have := hn_i6; omega)]
      exact hnx7 _ _ _ _ (fun kk => by kernel_rfl) h
    · replace h := ifT h hb10; conv => lhs; whnf
      obtain rfl := Option.some.inj h; show _ = _; kernel_rfl

  · clear h
    rintro next_nx7 ⟨⟩ r h
    try dsimp only at h
    have hd_i6 : (decide ((a_0.length : Int) < (a_0.length : Int))) = false := decide_eq_false (by omega)
    conv => lhs; whnf
    try (first | rw [hd_i6] | (split; (first | (rename_i hx; exact absurd (hd_i6.symm.trans hx) (by decide)) | (rotate_left; rename_i hx; exact absurd (hd_i6.symm.trans hx) (by decide)))))
    conv => lhs; whnf
    obtain rfl := Option.some.inj h; show _ = _; kernel_rfl


noncomputable def p_slices_ContainsFunc_impl_allWithin_c1 (a_0 : List Int) (a_1 : Int) (a_2 : Int) : Option Bool :=
  callK (p_slices_IndexFunc_impl_allWithin_c1 a_0 a_1 a_2) fun y1 =>
  some (decide (y1 ≥ 0))

set_option maxHeartbeats 4000000 in
theorem L_slices_ContainsFunc_impl_allWithin_c1 (a_0 : List Int) (a_1 : Int) (a_2 : Int) {r : Bool} (h : p_slices_ContainsFunc_impl_allWithin_c1 a_0 a_1 a_2 = some r) : callL E 121 [.d (.arr (a_0.map rI)), .clo 268 [.bp 0 0, .bp 1 0]] ([some (.box [IN a_1]), some (.box [IN a_2])] : Fo) = some (BO r, ([some (.box [IN a_1]), some (.box [IN a_2])] : Fo)) := by
  unfold p_slices_ContainsFunc_impl_allWithin_c1 at h
  refine callW (fu := Try.f121) rfl rfl rfl NN ?_
  intro lp cl hlp hcl
  conv => lhs; whnf
  obtain ⟨y1, h_y1, h⟩ := callK_inv h
  rw [cl_eq hcl (L_slices_IndexFunc_impl_allWithin_c1 a_0 a_1 a_2 h_y1)]
  rotate_left
  · show _ = _; kernel_rfl
  · show _ = _; kernel_rfl
  conv => lhs; whnf
  obtain rfl := Option.some.inj h; show _ = _; kernel_rfl


noncomputable def p_impl_allWithin (a_0 : List Int) (a_1 : Int) (a_2 : Int) : Option Bool :=
  callK (p_slices_ContainsFunc_impl_allWithin_c1 a_0 a_1 a_2) fun y1 =>
  some (!y1)

set_option maxHeartbeats 4000000 in
theorem L_impl_allWithin (a_0 : List Int) (a_1 : Int) (a_2 : Int) {r : Bool} (h : p_impl_allWithin a_0 a_1 a_2 = some r) : callL E 208 [.d (.arr (a_0.map rI)), IN a_1, IN a_2] ([] : Fo) = some (BO r, ([] : Fo)) := by
  unfold p_impl_allWithin at h
  refine callW (fu := Try.f208) rfl rfl rfl NN ?_
  intro lp cl hlp hcl
  conv => lhs; whnf
  obtain ⟨y1, h_y1, h⟩ := callK_inv h
  rw [cl_eq hcl (L_slices_ContainsFunc_impl_allWithin_c1 a_0 a_1 a_2 h_y1)]
  rotate_left
  · show _ = _; kernel_rfl
  · show _ = _; kernel_rfl
  conv => lhs; whnf
  obtain rfl := Option.some.inj h; show _ = _; kernel_rfl


noncomputable def p_impl_fragmentOk (a_0 : Fragment) : Option Bool :=
  callK (p_impl_ValidKey a_0.Low) fun y1 =>
  if y1 = true then
    callK (p_impl_ValidKey a_0.End) fun y3 =>
    if y3 = true then
      if (Op.bytesLess a_0.Low.toList a_0.End.toList) = true then
        if (inR (a_0.Seqs.length : Int) 1 60) = true then
          callK (p_impl_decreasing a_0.Seqs) fun y7 =>
          if y7 = true then
            callK (p_impl_allWithin a_0.Seqs 1 1000000) fun y9 =>
            some y9
          else
            some false
        else
          some false
      else
        some false
    else
      some false
  else
    some false

set_option maxHeartbeats 4000000 in
theorem L_impl_fragmentOk (a_0 : Fragment) {r : Bool} (h : p_impl_fragmentOk a_0 = some r) : callL E 124 [.agg [ST a_0.Low, ST a_0.End, .d (.arr (a_0.Seqs.map rI))]] ([] : Fo) = some (BO r, ([] : Fo)) := by
  unfold p_impl_fragmentOk at h
  refine callW (fu := Try.f124) rfl rfl rfl NN ?_
  intro lp cl hlp hcl
  conv => lhs; whnf
  obtain ⟨y1, h_y1, h⟩ := callK_inv h
  rw [cl_eq hcl (L_impl_ValidKey a_0.Low h_y1)]
  rotate_left
  · show _ = _; kernel_rfl
  · show _ = _; kernel_rfl
  conv => lhs; whnf
  cases hb2 : y1
  · replace h := ifF h (booF hb2); conv => lhs; whnf
    try (rw [hb2]; conv => lhs; whnf)
    try (rw [hb2]; conv => lhs; whnf)
    try (rw [hb2]; conv => lhs; whnf)
    obtain rfl := Option.some.inj h; show _ = _; kernel_rfl

  · replace h := ifT h hb2; conv => lhs; whnf
    try (rw [hb2]; conv => lhs; whnf)
    try (rw [hb2]; conv => lhs; whnf)
    obtain ⟨y3, h_y3, h⟩ := callK_inv h
    rw [cl_eq hcl (L_impl_ValidKey a_0.End h_y3)]
    rotate_left
    · show _ = _; kernel_rfl
    · show _ = _; kernel_rfl
    conv => lhs; whnf
    try (rw [hb2]; conv => lhs; whnf)
    cases hb4 : y3
    · replace h := ifF h (booF hb4); conv => lhs; whnf
      try (rw [hb4]; conv => lhs; whnf)
      try (rw [hb4]; conv => lhs; whnf)
      try (rw [hb4]; conv => lhs; whnf)
      try (rw [hb4]; conv => lhs; whnf)
      try (rw [hb4]; conv => lhs; whnf)
      obtain rfl := Option.some.inj h; show _ = _; kernel_rfl

    · replace h := ifT h hb4; conv => lhs; whnf
      try (rw [hb4]; conv => lhs; whnf)
      try (rw [hb4]; conv => lhs; whnf)
      try (rw [hb4]; conv => lhs; whnf)
      try (rw [hb4]; conv => lhs; whnf)
      try (rw [hb4]; conv => lhs; whnf)
      cases hb5 : (Op.bytesLess a_0.Low.toList a_0.End.toList)
      · replace h := ifF h (booF hb5); conv => lhs; whnf
        try (rw [hb5]; conv => lhs; whnf)
        try (rw [hb5]; conv => lhs; whnf)
        try (rw [hb5]; conv => lhs; whnf)
        try (rw [hb5]; conv => lhs; whnf)
        obtain rfl := Option.some.inj h; show _ = _; kernel_rfl

      · replace h := ifT h hb5; conv => lhs; whnf
        try (rw [hb5]; conv => lhs; whnf)
        try (rw [hb5]; conv => lhs; whnf)
        try rw [len_of (l := a_0.Seqs) (r := rI)]
        try (rw [hb5]; conv => lhs; whnf)
        rw [cl_eq hcl (L_impl_within (a_0.Seqs.length : Int) 1 60 (pl_within (a_0.Seqs.length : Int) 1 60))]
        rotate_left
        · show _ = _; kernel_rfl
        · show _ = _; kernel_rfl
        conv => lhs; whnf
        try (rw [hb5]; conv => lhs; whnf)
        cases hb6 : (inR (a_0.Seqs.length : Int) 1 60)
        · replace h := ifF h (booF hb6); conv => lhs; whnf
          try (rw [hb6]; conv => lhs; whnf)
          try (rw [hb6]; conv => lhs; whnf)
          try (rw [hb6]; conv => lhs; whnf)
          obtain rfl := Option.some.inj h; show _ = _; kernel_rfl

        · replace h := ifT h hb6; conv => lhs; whnf
          try (rw [hb6]; conv => lhs; whnf)
          try (rw [hb6]; conv => lhs; whnf)
          obtain ⟨y7, h_y7, h⟩ := callK_inv h
          rw [cl_eq hcl (L_impl_decreasing a_0.Seqs h_y7)]
          rotate_left
          · show _ = _; kernel_rfl
          · show _ = _; kernel_rfl
          conv => lhs; whnf
          try (rw [hb6]; conv => lhs; whnf)
          cases hb8 : y7
          · replace h := ifF h (booF hb8); conv => lhs; whnf
            try (rw [hb8]; conv => lhs; whnf)
            try (rw [hb8]; conv => lhs; whnf)
            try (rw [hb8]; conv => lhs; whnf)
            obtain rfl := Option.some.inj h; show _ = _; kernel_rfl

          · replace h := ifT h hb8; conv => lhs; whnf
            try (rw [hb8]; conv => lhs; whnf)
            try (rw [hb8]; conv => lhs; whnf)
            obtain ⟨y9, h_y9, h⟩ := callK_inv h
            rw [cl_eq hcl (L_impl_allWithin a_0.Seqs 1 1000000 h_y9)]
            rotate_left
            · show _ = _; kernel_rfl
            · show _ = _; kernel_rfl
            conv => lhs; whnf
            try (rw [hb8]; conv => lhs; whnf)
            obtain rfl := Option.some.inj h; show _ = _; kernel_rfl


noncomputable def p_impl_ValidFragments (a_0 : List Fragment) : Option Bool :=
  grd (a_0.length < 4611686018427387904) <|
  forK a_0 (fun (i9 : Nat) x11 (_ : Unit) (nx10 : Unit → Option _) =>
    callK (p_impl_fragmentOk x11) fun y12 =>
    if y12 = true then
      if (i9 : Int) > 0 then
        getK a_0 (IntKind.i64.wrap ((i9 : Int) - 1)) fun x15 =>
        if ((Op.bytesLess x15.End.toList x11.Low.toList) || (x15.End.toList == x11.Low.toList)) = true then
          nx10 ()
        else
          some false
      else
        nx10 ()
    else
      some false) () (fun (_ : Unit) =>
    some (decide ((a_0.length : Int) ≤ 120)))

set_option maxHeartbeats 4000000 in
theorem L_impl_ValidFragments (a_0 : List Fragment) {r : Bool} (h : p_impl_ValidFragments a_0 = some r) : callL E 43 [.d (.arr (a_0.map rFragment))] ([] : Fo) = some (BO r, ([] : Fo)) := by
  unfold p_impl_ValidFragments at h
  refine callW (fu := Try.f43) rfl rfl rfl NN ?_
  intro lp cl hlp hcl
  conv => lhs; whnf
  try rw [len_of (l := a_0) (r := rFragment)]
  obtain ⟨hl_i9, h⟩ := grd_inv h
  refine loop_for hlp (l := a_0) hl_i9 (fun (i9 : Nat) (_ : Unit) => ([.d (.arr (a_0.map rFragment)), .dead, .dead, .dead, .dead, .d (.arr (a_0.map rFragment)), IN (a_0.length : Int), IN (i9 : Int)] ++ List.replicate 26 .dead : List V)) (fun (i9 : Nat) (_ : Unit) => ([] : Fo)) (fun (r : Bool) => ((BO r : V), ([] : Fo))) ?_ ?_ () _ (fun kk => by kernel_rfl) h
  · clear h
    rintro next_nx10 nx10 i9 hi_i9 hnx10 ⟨⟩ r h
    try dsimp only at h
    have hn_i9 : i9 < 4611686018427387904 := by omega
    have hx_x11 := get_map rFragment a_0 i9 hi_i9
    generalize a_0[i9] = x11 at h hx_x11
    have hd_i9 : (decide ((i9 : Int) < (a_0.length : Int))) = true := decide_eq_true (by omega)
    conv => lhs; whnf
    try (first | rw [hd_i9] | (split; (first | (rename_i hx; exact absurd (hd_i9.symm.trans hx) (by decide)) | (rotate_left; rename_i hx; exact absurd (hd_i9.symm.trans hx) (by decide)))))
    conv => lhs; whnf
    try (rw [decide_eq_true hq_x11]; conv => lhs; whnf)
    rw [hx_x11]
    conv => lhs; whnf
    rw [hx_x11]
    conv => lhs; whnf
    obtain ⟨y12, h_y12, h⟩ := callK_inv h
    rw [cl_eq hcl (L_impl_fragmentOk x11 h_y12)]
    rotate_left
    · show _ = _; kernel_rfl
    · show _ = _; kernel_rfl
    conv => lhs; whnf
    cases hb13 : y12
    · replace h := ifF h (booF hb13); conv => lhs; whnf
      try (rw [hb13]; conv => lhs; whnf)
      try (rw [hb13]; conv => lhs; whnf)
      try (rw [hb13]; conv => lhs; whnf)
      try (rw [hb13]; conv => lhs; whnf)
      obtain rfl := Option.some.inj h; show _ = _; kernel_rfl

    · replace h := ifT h hb13; conv => lhs; whnf
      try (rw [hb13]; conv => lhs; whnf)
      try (rw [hb13]; conv => lhs; whnf)
      cases hb14 : (decide ((i9 : Int) > 0))
      · replace h := ifF h (decF hb14); conv => lhs; whnf
        try (rw [hb14]; conv => lhs; whnf)
        try (rw [hb14]; conv => lhs; whnf)
        try (rw [hb14]; conv => lhs; whnf)
        try (rw [hb14]; conv => lhs; whnf)
        try (rw [hb14]; conv => lhs; whnf)
        try (rw [hb14]; conv => lhs; whnf)
        try (rw [hb14]; conv => lhs; whnf)
        try (rw [hb14]; conv => lhs; whnf)
        try (rw [hb13]; conv => lhs; whnf)
        try (rw [hb14]; conv => lhs; whnf)
        try (rw [hb13]; conv => lhs; whnf)
        rw [wrap_nat i9 (by have := hn_i9; omega)]
        exact hnx10 _ _ _ _ (fun kk => by kernel_rfl) h
      · replace h := ifT h (decT hb14); conv => lhs; whnf
        try (rw [hb14]; conv => lhs; whnf)
        try (rw [hb14]; conv => lhs; whnf)
        try (rw [hb14]; conv => lhs; whnf)
        obtain ⟨x15, hq_x15, hx_x15', h⟩ := getK_inv h
        have hx_x15 := get_of (r := rFragment) hx_x15'
        try (rw [decide_eq_true hq_x15]; conv => lhs; whnf)
        rw [hx_x15]
        conv => lhs; whnf
        try (rw [hb14]; conv => lhs; whnf)
        try (rw [hb14]; conv => lhs; whnf)
        rw [hx_x15]
        conv => lhs; whnf
        try (rw [hb14]; conv => lhs; whnf)
        try (rw [hb14]; conv => lhs; whnf)
        try (rw [hb14]; conv => lhs; whnf)
        try (rw [hb13]; conv => lhs; whnf)
        try (rw [hb14]; conv => lhs; whnf)
        try (rw [hb13]; conv => lhs; whnf)
        cases hb16 : ((Op.bytesLess x15.End.toList x11.Low.toList) || (x15.End.toList == x11.Low.toList))
        · replace h := ifF h (booF hb16); conv => lhs; whnf
          obtain rfl := Option.some.inj h; show _ = _; kernel_rfl

        · replace h := ifT h hb16; conv => lhs; whnf
          rw [wrap_nat i9 (by have := hn_i9; omega)]
          exact hnx10 _ _ _ _ (fun kk => by kernel_rfl) h
  · clear h
    rintro next_nx10 ⟨⟩ r h
    try dsimp only at h
    have hd_i9 : (decide ((a_0.length : Int) < (a_0.length : Int))) = false := decide_eq_false (by omega)
    conv => lhs; whnf
    try (first | rw [hd_i9] | (split; (first | (rename_i hx; exact absurd (hd_i9.symm.trans hx) (by decide)) | (rotate_left; rename_i hx; exact absurd (hd_i9.symm.trans hx) (by decide)))))
    conv => lhs; whnf
    try rw [len_of (l := a_0) (r := rFragment)]
    obtain rfl := Option.some.inj h; show _ = _; kernel_rfl


noncomputable def p_impl_increasing (a_0 : List Int) : Option Bool :=
  iterK (fun (v1 : Int) (nx2 : Int → Option _) =>
    if v1 < (a_0.length : Int) then
      getK a_0 v1 fun x4 =>
      getK a_0 (IntKind.i64.wrap (v1 - 1)) fun x5 =>
      if x4 ≤ x5 then
        some false
      else
        nx2 (IntKind.i64.wrap (v1 + 1))
    else
      some true) NN 1

set_option maxHeartbeats 4000000 in
theorem L_impl_increasing (a_0 : List Int) {r : Bool} (h : p_impl_increasing a_0 = some r) : callL E 207 [.d (.arr (a_0.map rI))] ([] : Fo) = some (BO r, ([] : Fo)) := by
  unfold p_impl_increasing at h
  refine callW (fu := Try.f207) rfl rfl rfl NN ?_
  intro lp cl hlp hcl
  conv => lhs; whnf
  refine loop_iter hlp (fun (v1 : Int) => ([.d (.arr (a_0.map rI)), .dead, .dead, IN v1] ++ List.replicate 16 .dead : List V)) (fun (v1 : Int) => ([] : Fo)) (fun (r : Bool) => ((BO r : V), ([] : Fo))) ?_ 1 _ (fun kk => by kernel_rfl) h
  clear h
  rintro next_nx2 nx2 hnx2 v1 r h
  try dsimp only at h
  conv => lhs; whnf
  try rw [len_of (l := a_0) (r := rI)]
  cases hb3 : (decide (v1 < (a_0.length : Int)))
  · replace h := ifF h (decF hb3); conv => lhs; whnf
    obtain rfl := Option.some.inj h; show _ = _; kernel_rfl

  · replace h := ifT h (decT hb3); conv => lhs; whnf
    obtain ⟨x4, hq_x4, hx_x4', h⟩ := getK_inv h
    have hx_x4 := get_of (r := rI) hx_x4'
    try (rw [decide_eq_true hq_x4]; conv => lhs; whnf)
    rw [hx_x4]
    conv => lhs; whnf
    rw [hx_x4]
    conv => lhs; whnf
    obtain ⟨x5, hq_x5, hx_x5', h⟩ := getK_inv h
    have hx_x5 := get_of (r := rI) hx_x5'
    try (rw [decide_eq_true hq_x5]; conv => lhs; whnf)
    rw [hx_x5]
    conv => lhs; whnf
    rw [hx_x5]
    conv => lhs; whnf
    cases hb6 : (decide (x4 ≤ x5))
    · replace h := ifF h (decF hb6); conv => lhs; whnf
      exact hnx2 _ _ _ _ (fun kk => by kernel_rfl) h
    · replace h := ifT h (decT hb6); conv => lhs; whnf
      obtain rfl := Option.some.inj h; show _ = _; kernel_rfl


noncomputable def p_impl_snapshotsOk (a_0 : List Int) : Option Bool :=
  if (a_0.length : Int) ≤ 4 then
    callK (p_impl_increasing a_0) fun y2 =>
    if y2 = true then
      callK (p_impl_allWithin a_0 0 1000000) fun y4 =>
      some y4
    else
      some false
  else
    some false

set_option maxHeartbeats 4000000 in
theorem L_impl_snapshotsOk (a_0 : List Int) {r : Bool} (h : p_impl_snapshotsOk a_0 = some r) : callL E 120 [.d (.arr (a_0.map rI))] ([] : Fo) = some (BO r, ([] : Fo)) := by
  unfold p_impl_snapshotsOk at h
  refine callW (fu := Try.f120) rfl rfl rfl NN ?_
  intro lp cl hlp hcl
  conv => lhs; whnf
  try rw [len_of (l := a_0) (r := rI)]
  cases hb1 : (decide ((a_0.length : Int) ≤ 4))
  · replace h := ifF h (decF hb1); conv => lhs; whnf
    try (rw [hb1]; conv => lhs; whnf)
    try (rw [hb1]; conv => lhs; whnf)
    obtain rfl := Option.some.inj h; show _ = _; kernel_rfl

  · replace h := ifT h (decT hb1); conv => lhs; whnf
    try (rw [hb1]; conv => lhs; whnf)
    obtain ⟨y2, h_y2, h⟩ := callK_inv h
    rw [cl_eq hcl (L_impl_increasing a_0 h_y2)]
    rotate_left
    · show _ = _; kernel_rfl
    · show _ = _; kernel_rfl
    conv => lhs; whnf
    try (rw [hb1]; conv => lhs; whnf)
    cases hb3 : y2
    · replace h := ifF h (booF hb3); conv => lhs; whnf
      try (rw [hb3]; conv => lhs; whnf)
      try (rw [hb3]; conv => lhs; whnf)
      obtain rfl := Option.some.inj h; show _ = _; kernel_rfl

    · replace h := ifT h hb3; conv => lhs; whnf
      try (rw [hb3]; conv => lhs; whnf)
      obtain ⟨y4, h_y4, h⟩ := callK_inv h
      rw [cl_eq hcl (L_impl_allWithin a_0 0 1000000 h_y4)]
      rotate_left
      · show _ = _; kernel_rfl
      · show _ = _; kernel_rfl
      conv => lhs; whnf
      try (rw [hb3]; conv => lhs; whnf)
      obtain rfl := Option.some.inj h; show _ = _; kernel_rfl


noncomputable def p_impl_atMost (a_0 : List Int) (a_1 : Int) : Option Int :=
  grd (a_0.length < 4611686018427387904) <|
  forK a_0 (fun (i5 : Nat) x7 (_ : Unit) (nx6 : Unit → Option _) =>
    if x7 ≤ a_1 then
      some x7
    else
      nx6 ()) () (fun (_ : Unit) =>
    some 0)

set_option maxHeartbeats 4000000 in
theorem L_impl_atMost (a_0 : List Int) (a_1 : Int) {r : Int} (h : p_impl_atMost a_0 a_1 = some r) : callL E 123 [.d (.arr (a_0.map rI)), IN a_1] ([] : Fo) = some (IN r, ([] : Fo)) := by
  unfold p_impl_atMost at h
  refine callW (fu := Try.f123) rfl rfl rfl NN ?_
  intro lp cl hlp hcl
  conv => lhs; whnf
  try rw [len_of (l := a_0) (r := rI)]
  obtain ⟨hl_i5, h⟩ := grd_inv h
  refine loop_for hlp (l := a_0) hl_i5 (fun (i5 : Nat) (_ : Unit) => ([.dead, IN a_1, .dead, .dead, .dead, .dead, .dead, .d (.arr (a_0.map rI)), IN (a_0.length : Int), IN (i5 : Int)] ++ List.replicate 8 .dead : List V)) (fun (i5 : Nat) (_ : Unit) => ([] : Fo)) (fun (r : Int) => ((IN r : V), ([] : Fo))) ?_ ?_ () _ (fun kk => by kernel_rfl) h
  · clear h
    rintro next_nx6 nx6 i5 hi_i5 hnx6 ⟨⟩ r h
    try dsimp only at h
    have hn_i5 : i5 < 4611686018427387904 := by omega
    have hx_x7 := get_map rI a_0 i5 hi_i5
    generalize a_0[i5] = x7 at h hx_x7
    have hd_i5 : (decide ((i5 : Int) < (a_0.length : Int))) = true := decide_eq_true (by omega)
    conv => lhs; whnf
    try (first | rw [hd_i5] | (split; (first | (rename_i hx; exact absurd (hd_i5.symm.trans hx) (by decide)) | (rotate_left; rename_i hx; exact absurd (hd_i5.symm.trans hx) (by decide)))))
    conv => lhs; whnf
    try (rw [decide_eq_true hq_x7]; conv => lhs; whnf)
    rw [hx_x7]
    conv => lhs; whnf
    rw [hx_x7]
    conv => lhs; whnf
    cases hb8 : (decide (x7 ≤ a_1))
    · replace h := ifF h (decF hb8); conv => lhs; whnf
      rw [wrap_nat i5 (by have := hn_i5; omega)]
      exact hnx6 _ _ _ _ (fun kk => by kernel_rfl) h
    · replace h := ifT h (decT hb8); conv => lhs; whnf
      obtain rfl := Option.some.inj h; show _ = _; kernel_rfl

  · clear h
    rintro next_nx6 ⟨⟩ r h
    try dsimp only at h
    have hd_i5 : (decide ((a_0.length : Int) < (a_0.length : Int))) = false := decide_eq_false (by omega)
    conv => lhs; whnf
    try (first | rw [hd_i5] | (split; (first | (rename_i hx; exact absurd (hd_i5.symm.trans hx) (by decide)) | (rotate_left; rename_i hx; exact absurd (hd_i5.symm.trans hx) (by decide)))))
    conv => lhs; whnf
    obtain rfl := Option.some.inj h; show _ = _; kernel_rfl


noncomputable def p_impl_PruneFragments_c1 (a_0 : Int) (a_1 : Fragment) (a_2 : Int) : Option Bool :=
  callK (p_impl_atMost a_1.Seqs a_0) fun y1 =>
  some (y1 == a_2)

set_option maxHeartbeats 4000000 in
theorem L_impl_PruneFragments_c1 (a_0 : Int) (a_1 : Fragment) (a_2 : Int) {r : Bool} (h : p_impl_PruneFragments_c1 a_0 a_1 a_2 = some r) : callL E 122 [IN a_0, .bp 0 0, .bp 1 0] ([some (.box [ST a_1.Low, ST a_1.End, .d (.arr (a_1.Seqs.map rI))]), some (.box [IN a_2])] : Fo) = some (BO r, ([some (.box [ST a_1.Low, ST a_1.End, .d (.arr (a_1.Seqs.map rI))]), some (.box [IN a_2])] : Fo)) := by
  unfold p_impl_PruneFragments_c1 at h
  refine callW (fu := Try.f122) rfl rfl rfl NN ?_
  intro lp cl hlp hcl
  conv => lhs; whnf
  obtain ⟨y1, h_y1, h⟩ := callK_inv h
  rw [cl_eq hcl (L_impl_atMost a_1.Seqs a_0 h_y1)]
  rotate_left
  · show _ = _; kernel_rfl
  · show _ = _; kernel_rfl
  conv => lhs; whnf
  obtain rfl := Option.some.inj h; show _ = _; kernel_rfl


noncomputable def p_slices_IndexFunc_impl_PruneFragments_c1 (a_0 : List Int) (a_1 : Fragment) (a_2 : Int) : Option Int :=
  grd (a_0.length < 4611686018427387904) <|
  forK a_0 (fun (i6 : Nat) x8 (_ : Unit) (nx7 : Unit → Option _) =>
    callK (p_impl_PruneFragments_c1 x8 a_1 a_2) fun y9 =>
    if y9 = true then
      some (i6 : Int)
    else
      nx7 ()) () (fun (_ : Unit) =>
    some (-1))

set_option maxHeartbeats 4000000 in
theorem L_slices_IndexFunc_impl_PruneFragments_c1 (a_0 : List Int) (a_1 : Fragment) (a_2 : Int) {r : Int} (h : p_slices_IndexFunc_impl_PruneFragments_c1 a_0 a_1 a_2 = some r) : callL E 209 [.d (.arr (a_0.map rI)), .clo 122 [.bp 0 0, .bp 1 0]] ([some (.box [ST a_1.Low, ST a_1.End, .d (.arr (a_1.Seqs.map rI))]), some (.box [IN a_2])] : Fo) = some (IN r, ([some (.box [ST a_1.Low, ST a_1.End, .d (.arr (a_1.Seqs.map rI))]), some (.box [IN a_2])] : Fo)) := by
  unfold p_slices_IndexFunc_impl_PruneFragments_c1 at h
  refine callW (fu := Try.f209) rfl rfl rfl NN ?_
  intro lp cl hlp hcl
  conv => lhs; whnf
  try rw [len_of (l := a_0) (r := rI)]
  obtain ⟨hl_i6, h⟩ := grd_inv h
  refine loop_for hlp (l := a_0) hl_i6 (fun (i6 : Nat) (_ : Unit) => ([.d (.arr (a_0.map rI)), .clo 122 [.bp 0 0, .bp 1 0], .dead, .dead, .dead, .dead, .dead, IN (a_0.length : Int), IN (i6 : Int)] ++ List.replicate 10 .dead : List V)) (fun (i6 : Nat) (_ : Unit) => ([some (.box [ST a_1.Low, ST a_1.End, .d (.arr (a_1.Seqs.map rI))]), some (.box [IN a_2])] : Fo)) (fun (r : Int) => ((IN r : V), ([some (.box [ST a_1.Low, ST a_1.End, .d (.arr (a_1.Seqs.map rI))]), some (.box [IN a_2])] : Fo))) ?_ ?_ () _ (fun kk => by kernel_rfl) h
  · clear h
    rintro next_nx7 nx7 i6 hi_i6 hnx7 ⟨⟩ r h
    try dsimp only at h
    have hn_i6 : i6 < 4611686018427387904 := by omega
    have hx_x8 := get_map rI a_0 i6 hi_i6
    generalize a_0[i6] = x8 at h hx_x8
    have hd_i6 : (decide ((i6 : Int) < (a_0.length : Int))) = true := decide_eq_true (by omega)
    conv => lhs; whnf
    try (first | rw [hd_i6] | (split; (first | (rename_i hx; exact absurd (hd_i6.symm.trans hx) (by decide)) | (rotate_left; rename_i hx; exact absurd (hd_i6.symm.trans hx) (by decide)))))
    conv => lhs; whnf
    try (rw [decide_eq_true hq_x8]; conv => lhs; whnf)
    rw [hx_x8]
    conv => lhs; whnf
    rw [hx_x8]
    conv => lhs; whnf
    obtain ⟨y9, h_y9, h⟩ := callK_inv h
    rw [cl_eq hcl (L_impl_PruneFragments_c1 x8 a_1 a_2 h_y9)]
    rotate_left
    · show _ = _; kernel_rfl
    · show _ = _; kernel_rfl
    conv => lhs; whnf
    cases hb10 : y9
    · replace h := ifF h (booF hb10); conv => lhs; whnf
      rw [wrap_nat i6 (by have := hn_i6; omega)]
      exact hnx7 _ _ _ _ (fun kk => by kernel_rfl) h
    · replace h := ifT h hb10; conv => lhs; whnf
      obtain rfl := Option.some.inj h; show _ = _; kernel_rfl

  · clear h
    rintro next_nx7 ⟨⟩ r h
    try dsimp only at h
    have hd_i6 : (decide ((a_0.length : Int) < (a_0.length : Int))) = false := decide_eq_false (by omega)
    conv => lhs; whnf
    try (first | rw [hd_i6] | (split; (first | (rename_i hx; exact absurd (hd_i6.symm.trans hx) (by decide)) | (rotate_left; rename_i hx; exact absurd (hd_i6.symm.trans hx) (by decide)))))
    conv => lhs; whnf
    obtain rfl := Option.some.inj h; show _ = _; kernel_rfl


noncomputable def p_slices_ContainsFunc_impl_PruneFragments_c1 (a_0 : List Int) (a_1 : Fragment) (a_2 : Int) : Option Bool :=
  callK (p_slices_IndexFunc_impl_PruneFragments_c1 a_0 a_1 a_2) fun y1 =>
  some (decide (y1 ≥ 0))

set_option maxHeartbeats 4000000 in
theorem L_slices_ContainsFunc_impl_PruneFragments_c1 (a_0 : List Int) (a_1 : Fragment) (a_2 : Int) {r : Bool} (h : p_slices_ContainsFunc_impl_PruneFragments_c1 a_0 a_1 a_2 = some r) : callL E 121 [.d (.arr (a_0.map rI)), .clo 122 [.bp 0 0, .bp 1 0]] ([some (.box [ST a_1.Low, ST a_1.End, .d (.arr (a_1.Seqs.map rI))]), some (.box [IN a_2])] : Fo) = some (BO r, ([some (.box [ST a_1.Low, ST a_1.End, .d (.arr (a_1.Seqs.map rI))]), some (.box [IN a_2])] : Fo)) := by
  unfold p_slices_ContainsFunc_impl_PruneFragments_c1 at h
  refine callW (fu := Try.f121) rfl rfl rfl NN ?_
  intro lp cl hlp hcl
  conv => lhs; whnf
  obtain ⟨y1, h_y1, h⟩ := callK_inv h
  rw [cl_eq hcl (L_slices_IndexFunc_impl_PruneFragments_c1 a_0 a_1 a_2 h_y1)]
  rotate_left
  · show _ = _; kernel_rfl
  · show _ = _; kernel_rfl
  conv => lhs; whnf
  obtain rfl := Option.some.inj h; show _ = _; kernel_rfl


noncomputable def p_impl_PruneFragments (a_0 : List Fragment) (a_1 : List Int) : Option ((List Fragment) × Int) :=
  callK (p_impl_ValidFragments a_0) fun y1 =>
  if y1 = true then
    callK (p_impl_snapshotsOk a_1) fun y3 =>
    if y3 = true then
      grd (a_0.length < 4611686018427387904) <|
      forK a_0 (fun (i23 : Nat) x26 (v24 : List Fragment) (nx25 : (List Fragment) → Option _) =>
        grd (x26.Seqs.length < 4611686018427387904) <|
        forK x26.Seqs (fun (i34 : Nat) x37 (v35 : List Int) (nx36 : (List Int) → Option _) =>
          if (i34 : Int) = 0 then
            grd (appOk (v35.length + 1) 8 = true) <|
            nx36 (v35 ++ ([x37] : List Int))
          else
            callK (p_slices_ContainsFunc_impl_PruneFragments_c1 a_1 x26 x37) fun y39 =>
            if y39 = true then
              grd (appOk (v35.length + 1) 8 = true) <|
              nx36 (v35 ++ ([x37] : List Int))
            else
              nx36 v35) ([] : List Int) (fun (v35 : List Int) =>
          grd (appOk (v24.length + 1) 56 = true) <|
          nx25 (v24 ++ ([(⟨x26.Low, x26.End, v35⟩ : Fragment)] : List Fragment)))) ([] : List Fragment) (fun (v24 : List Fragment) =>
        some (v24, 0))
    else
      some (([] : List Fragment), 1)
  else
    some (([] : List Fragment), 1)

set_option maxHeartbeats 4000000 in
theorem L_impl_PruneFragments (a_0 : List Fragment) (a_1 : List Int) {r : ((List Fragment) × Int)} (h : p_impl_PruneFragments a_0 a_1 = some r) : callL E 42 [.d (.arr (a_0.map rFragment)), .d (.arr (a_1.map rI))] ([] : Fo) = some (.tup [.d (.arr (r.1.map rFragment)), IN r.2], ([] : Fo)) := by
  unfold p_impl_PruneFragments at h
  refine callW (fu := Try.f42) rfl rfl rfl NN ?_
  intro lp cl hlp hcl
  conv => lhs; whnf
  obtain ⟨y1, h_y1, h⟩ := callK_inv h
  rw [cl_eq hcl (L_impl_ValidFragments a_0 h_y1)]
  rotate_left
  · show _ = _; kernel_rfl
  · show _ = _; kernel_rfl
  conv => lhs; whnf
  cases hb2 : y1
  · replace h := ifF h (booF hb2); conv => lhs; whnf
    try (rw [hb2]; conv => lhs; whnf)
    try (rw [hb2]; conv => lhs; whnf)
    try (rw [hb2]; conv => lhs; whnf)
    obtain rfl := Option.some.inj h; show _ = _; kernel_rfl

  · replace h := ifT h hb2; conv => lhs; whnf
    try (rw [hb2]; conv => lhs; whnf)
    obtain ⟨y3, h_y3, h⟩ := callK_inv h
    rw [cl_eq hcl (L_impl_snapshotsOk a_1 h_y3)]
    rotate_left
    · show _ = _; kernel_rfl
    · show _ = _; kernel_rfl
    conv => lhs; whnf
    try (rw [hb2]; conv => lhs; whnf)
    try (rw [hb2]; conv => lhs; whnf)
    cases hb4 : y3
    · replace h := ifF h (booF hb4); conv => lhs; whnf
      obtain rfl := Option.some.inj h; show _ = _; kernel_rfl

    · replace h := ifT h hb4
      try rw [hb4] at h
      conv => lhs; whnf
      try rw [len_of (l := a_0) (r := rFragment)]
      obtain ⟨hl_i23, h⟩ := grd_inv h
      refine loop_for hlp (l := a_0) hl_i23 (fun (i23 : Nat) (v24 : List Fragment) => ([.dead, .d (.arr (a_1.map rI)), .dead, .dead, .dead, .dead, .sl 0, .dead, .dead, .dead, .dead, .dead, .dead, .dead, .dead, .dead, .dead, .dead, .dead, .dead, .d (.arr (a_0.map rFragment)), IN (a_0.length : Int), IN (i23 : Int)] ++ List.replicate 36 .dead : List V)) (fun (i23 : Nat) (v24 : List Fragment) => ([some (.arr 155 3 (v24.map rFragment))] : Fo)) (fun (r : ((List Fragment) × Int)) => ((.tup [.d (.arr (r.1.map rFragment)), IN r.2] : V), ([] : Fo))) ?_ ?_ ([] : List Fragment) _ (fun kk => by kernel_rfl) h
      · clear h
        rintro next_nx25 nx25 i23 hi_i23 hnx25 v24 r h
        try dsimp only at h
        have hn_i23 : i23 < 4611686018427387904 := by omega
        have hx_x26 := get_map rFragment a_0 i23 hi_i23
        generalize a_0[i23] = x26 at h hx_x26
        have hd_i23 : (decide ((i23 : Int) < (a_0.length : Int))) = true := decide_eq_true (by omega)
        conv => lhs; whnf
        try (first | rw [hd_i23] | (split; (first | (rename_i hx; exact absurd (hd_i23.symm.trans hx) (by decide)) | (rotate_left; rename_i hx; exact absurd (hd_i23.symm.trans hx) (by decide)))))
        conv => lhs; whnf
        try (rw [decide_eq_true hq_x26]; conv => lhs; whnf)
        rw [hx_x26]
        conv => lhs; whnf
        rw [hx_x26]
        conv => lhs; whnf
        try rw [len_of (l := x26.Seqs) (r := rI)]
        obtain ⟨hl_i34, h⟩ := grd_inv h
        refine loop_for hlp (l := x26.Seqs) hl_i34 (fun (i34 : Nat) (v35 : List Int) => ([.dead, .d (.arr (a_1.map rI)), .dead, .dead, .dead, .dead, .sl 0, .dead, .bp 1 0, .bp 2 0, .dead, .dead, .dead, .dead, .dead, .dead, .dead, .dead, .dead, .dead, .d (.arr (a_0.map rFragment)), IN (a_0.length : Int), IN (i23 : Int), .dead, .dead, .dead, .dead, .dead, .dead, .dead, .dead, .dead, .d (.arr (x26.Seqs.map rI)), IN (x26.Seqs.length : Int), IN (i34 : Int)] ++ List.replicate 24 .dead : List V)) (fun (i34 : Nat) (v35 : List Int) => ([some (.arr 155 3 (v24.map rFragment)), some (.box [ST x26.Low, ST x26.End, .d (.arr (x26.Seqs.map rI))]), some (.box [ST x26.Low, ST x26.End, .sl 3]), some (.arr 2 1 (v35.map rI))] : Fo)) (fun (r : ((List Fragment) × Int)) => ((.tup [.d (.arr (r.1.map rFragment)), IN r.2] : V), ([] : Fo))) ?_ ?_ ([] : List Int) _ (fun kk => by kernel_rfl) h
        · clear h
          rintro next_nx36 nx36 i34 hi_i34 hnx36 v35 r h
          try dsimp only at h
          have hn_i34 : i34 < 4611686018427387904 := by omega
          have hx_x37 := get_map rI x26.Seqs i34 hi_i34
          generalize x26.Seqs[i34] = x37 at h hx_x37
          have hd_i34 : (decide ((i34 : Int) < (x26.Seqs.length : Int))) = true := decide_eq_true (by omega)
          conv => lhs; whnf
          try (first | rw [hd_i34] | (split; (first | (rename_i hx; exact absurd (hd_i34.symm.trans hx) (by decide)) | (rotate_left; rename_i hx; exact absurd (hd_i34.symm.trans hx) (by decide)))))
          conv => lhs; whnf
          try (rw [decide_eq_true hq_x37]; conv => lhs; whnf)
          rw [hx_x37]
          conv => lhs; whnf
          rw [hx_x37]
          conv => lhs; whnf
          cases hb38 : ((i34 : Int) == 0)
          · replace h := ifF h (beqF hb38); conv => lhs; whnf
            try (rw [hb38]; conv => lhs; whnf)
            try (rw [hb38]; conv => lhs; whnf)
            obtain ⟨y39, h_y39, h⟩ := callK_inv h
            rw [cl_eq hcl (L_slices_ContainsFunc_impl_PruneFragments_c1 a_1 x26 x37 h_y39)]
            rotate_left
            · show _ = _; kernel_rfl
            · show _ = _; kernel_rfl
            conv => lhs; whnf
            try (rw [hb38]; conv => lhs; whnf)
            cases hb40 : y39
            · replace h := ifF h (booF hb40); conv => lhs; whnf
              rw [wrap_nat i34 (by have := hn_i34; omega)]
              exact hnx36 _ _ _ _ (fun kk => by kernel_rfl) h
            · replace h := ifT h hb40; conv => lhs; whnf
              obtain ⟨hg41, h⟩ := grd_inv h
              rw [app_eq hg41 ?h1 ?h2]
              case h1 => first | exact rfl | (simp only [List.length_map, List.length_cons, List.length_nil]; done) | (rw [List.length_map]; rfl)
              case h2 => exact rfl
              conv => lhs; whnf
              first | (rw [map_app_of (r := rI) (l := v35) (m := ([x37] : List Int)) ?hh]; case hh => exact rfl) | skip
              rw [wrap_nat i34 (by have := hn_i34; omega)]
              exact hnx36 _ _ _ _ (fun kk => by kernel_rfl) h
          · replace h := ifT h (beqT hb38); conv => lhs; whnf
            try (rw [hb38]; conv => lhs; whnf)
            try (rw [hb38]; conv => lhs; whnf)
            try (rw [hb38]; conv => lhs; whnf)
            obtain ⟨hg42, h⟩ := grd_inv h
            rw [app_eq hg42 ?h1 ?h2]
            case h1 => first | exact rfl | (simp only [List.length_map, List.length_cons, List.length_nil]; done) | (rw [List.length_map]; rfl)
            case h2 => exact rfl
            conv => lhs; whnf
            first | (rw [map_app_of (r := rI) (l := v35) (m := ([x37] : List Int)) ?hh]; case hh => exact rfl) | skip
            rw [wrap_nat i34 (by have := hn_i34; omega)]
            exact hnx36 _ _ _ _ (fun kk => by kernel_rfl) h
        · clear h
          rintro next_nx36 v35 r h
          try dsimp only at h
          have hd_i34 : (decide ((x26.Seqs.length : Int) < (x26.Seqs.length : Int))) = false := decide_eq_false (by omega)
          conv => lhs; whnf
          try (first | rw [hd_i34] | (split; (first | (rename_i hx; exact absurd (hd_i34.symm.trans hx) (by decide)) | (rotate_left; rename_i hx; exact absurd (hd_i34.symm.trans hx) (by decide)))))
          conv => lhs; whnf
          obtain ⟨hg43, h⟩ := grd_inv h
          rw [app_eq hg43 ?h1 ?h2]
          case h1 => first | exact rfl | (simp only [List.length_map, List.length_cons, List.length_nil]; done) | (rw [List.length_map]; rfl)
          case h2 => exact rfl
          conv => lhs; whnf
          first | (rw [map_app_of (r := rFragment) (l := v24) (m := ([(⟨x26.Low, x26.End, v35⟩ : Fragment)] : List Fragment)) ?hh]; case hh => exact rfl) | skip
          rw [wrap_nat i23 (by have := hn_i23; omega)]
          exact hnx25 _ _ _ _ (fun kk => by kernel_rfl) h
      · clear h
        rintro next_nx25 v24 r h
        try dsimp only at h
        have hd_i23 : (decide ((a_0.length : Int) < (a_0.length : Int))) = false := decide_eq_false (by omega)
        conv => lhs; whnf
        try (first | rw [hd_i23] | (split; (first | (rename_i hx; exact absurd (hd_i23.symm.trans hx) (by decide)) | (rotate_left; rename_i hx; exact absurd (hd_i23.symm.trans hx) (by decide)))))
        conv => lhs; whnf
        obtain rfl := Option.some.inj h; show _ = _; kernel_rfl


noncomputable def p_impl_FragmentRecords (a_0 : List Fragment) : Option (List Record) :=
  callK (p_impl_ValidFragments a_0) fun y1 =>
  if y1 = true then
    grd (a_0.length < 4611686018427387904) <|
    forK a_0 (fun (i15 : Nat) x18 (v16 : List Record) (nx17 : (List Record) → Option _) =>
      grd (x18.Seqs.length < 4611686018427387904) <|
      forK x18.Seqs (fun (i23 : Nat) x26 (v24 : List Record) (nx25 : (List Record) → Option _) =>
        grd (appOk (v24.length + 1) 64 = true) <|
        nx25 (v24 ++ ([(⟨x18.Low, x26, 3, (⟨#[]⟩ : ByteArray), x18.End⟩ : Record)] : List Record))) v16 (fun (v24 : List Record) =>
        nx17 v24)) ([] : List Record) (fun (v16 : List Record) =>
      some v16)
  else
    some ([] : List Record)

set_option maxHeartbeats 4000000 in
theorem L_impl_FragmentRecords (a_0 : List Fragment) {r : (List Record)} (h : p_impl_FragmentRecords a_0 = some r) : callL E 44 [.d (.arr (a_0.map rFragment))] ([] : Fo) = some (.d (.arr (r.map rRecord)), ([] : Fo)) := by
  unfold p_impl_FragmentRecords at h
  refine callW (fu := Try.f44) rfl rfl rfl NN ?_
  intro lp cl hlp hcl
  conv => lhs; whnf
  obtain ⟨y1, h_y1, h⟩ := callK_inv h
  rw [cl_eq hcl (L_impl_ValidFragments a_0 h_y1)]
  rotate_left
  · show _ = _; kernel_rfl
  · show _ = _; kernel_rfl
  conv => lhs; whnf
  cases hb2 : y1
  · replace h := ifF h (booF hb2); conv => lhs; whnf
    obtain rfl := Option.some.inj h; show _ = _; kernel_rfl

  · replace h := ifT h hb2; conv => lhs; whnf
    try rw [len_of (l := a_0) (r := rFragment)]
    obtain ⟨hl_i15, h⟩ := grd_inv h
    refine loop_for hlp (l := a_0) hl_i15 (fun (i15 : Nat) (v16 : List Record) => ([.dead, .dead, .dead, .sl 0, .dead, .dead, .dead, .dead, .dead, .dead, .dead, .d (.arr (a_0.map rFragment)), IN (a_0.length : Int), IN (i15 : Int)] ++ List.replicate 22 .dead : List V)) (fun (i15 : Nat) (v16 : List Record) => ([some (.arr 46 5 (v16.map rRecord))] : Fo)) (fun (r : (List Record)) => ((.d (.arr (r.map rRecord)) : V), ([] : Fo))) ?_ ?_ ([] : List Record) _ (fun kk => by kernel_rfl) h
    · clear h
      rintro next_nx17 nx17 i15 hi_i15 hnx17 v16 r h
      try dsimp only at h
      have hn_i15 : i15 < 4611686018427387904 := by omega
      have hx_x18 := get_map rFragment a_0 i15 hi_i15
      generalize a_0[i15] = x18 at h hx_x18
      have hd_i15 : (decide ((i15 : Int) < (a_0.length : Int))) = true := decide_eq_true (by omega)
      conv => lhs; whnf
      try (first | rw [hd_i15] | (split; (first | (rename_i hx; exact absurd (hd_i15.symm.trans hx) (by decide)) | (rotate_left; rename_i hx; exact absurd (hd_i15.symm.trans hx) (by decide)))))
      conv => lhs; whnf
      try (rw [decide_eq_true hq_x18]; conv => lhs; whnf)
      rw [hx_x18]
      conv => lhs; whnf
      rw [hx_x18]
      conv => lhs; whnf
      try rw [len_of (l := x18.Seqs) (r := rI)]
      obtain ⟨hl_i23, h⟩ := grd_inv h
      refine loop_for hlp (l := x18.Seqs) hl_i23 (fun (i23 : Nat) (v24 : List Record) => ([.dead, .dead, .dead, .sl 0, .dead, .bp 1 0, .dead, .dead, .dead, .dead, .dead, .d (.arr (a_0.map rFragment)), IN (a_0.length : Int), IN (i15 : Int), .dead, .dead, .dead, .dead, .d (.arr (x18.Seqs.map rI)), IN (x18.Seqs.length : Int), IN (i23 : Int)] ++ List.replicate 15 .dead : List V)) (fun (i23 : Nat) (v24 : List Record) => ([some (.arr 46 5 (v24.map rRecord)), some (.box [ST x18.Low, ST x18.End, .d (.arr (x18.Seqs.map rI))])] : Fo)) (fun (r : (List Record)) => ((.d (.arr (r.map rRecord)) : V), ([] : Fo))) ?_ ?_ v16 _ (fun kk => by kernel_rfl) h
      · clear h
        rintro next_nx25 nx25 i23 hi_i23 hnx25 v24 r h
        try dsimp only at h
        have hn_i23 : i23 < 4611686018427387904 := by omega
        have hx_x26 := get_map rI x18.Seqs i23 hi_i23
        generalize x18.Seqs[i23] = x26 at h hx_x26
        have hd_i23 : (decide ((i23 : Int) < (x18.Seqs.length : Int))) = true := decide_eq_true (by omega)
        conv => lhs; whnf
        try (first | rw [hd_i23] | (split; (first | (rename_i hx; exact absurd (hd_i23.symm.trans hx) (by decide)) | (rotate_left; rename_i hx; exact absurd (hd_i23.symm.trans hx) (by decide)))))
        conv => lhs; whnf
        try (rw [decide_eq_true hq_x26]; conv => lhs; whnf)
        rw [hx_x26]
        conv => lhs; whnf
        rw [hx_x26]
        conv => lhs; whnf
        obtain ⟨hg27, h⟩ := grd_inv h
        rw [app_eq hg27 ?h1 ?h2]
        case h1 => first | exact rfl | (simp only [List.length_map, List.length_cons, List.length_nil]; done) | (rw [List.length_map]; rfl)
        case h2 => exact rfl
        conv => lhs; whnf
        first | (rw [map_app_of (r := rRecord) (l := v24) (m := ([(⟨x18.Low, x26, 3, (⟨#[]⟩ : ByteArray), x18.End⟩ : Record)] : List Record)) ?hh]; case hh => exact rfl) | skip
        rw [wrap_nat i23 (by have := hn_i23; omega)]
        exact hnx25 _ _ _ _ (fun kk => by kernel_rfl) h
      · clear h
        rintro next_nx25 v24 r h
        try dsimp only at h
        have hd_i23 : (decide ((x18.Seqs.length : Int) < (x18.Seqs.length : Int))) = false := decide_eq_false (by omega)
        conv => lhs; whnf
        try (first | rw [hd_i23] | (split; (first | (rename_i hx; exact absurd (hd_i23.symm.trans hx) (by decide)) | (rotate_left; rename_i hx; exact absurd (hd_i23.symm.trans hx) (by decide)))))
        conv => lhs; whnf
        rw [wrap_nat i15 (by have := hn_i15; omega)]
        exact hnx17 _ _ _ _ (fun kk => by kernel_rfl) h
    · clear h
      rintro next_nx17 v16 r h
      try dsimp only at h
      have hd_i15 : (decide ((a_0.length : Int) < (a_0.length : Int))) = false := decide_eq_false (by omega)
      conv => lhs; whnf
      try (first | rw [hd_i15] | (split; (first | (rename_i hx; exact absurd (hd_i15.symm.trans hx) (by decide)) | (rotate_left; rename_i hx; exact absurd (hd_i15.symm.trans hx) (by decide)))))
      conv => lhs; whnf
      obtain rfl := Option.some.inj h; show _ = _; kernel_rfl


noncomputable def p_impl_coverSeq (a_0 : List Fragment) (a_1 : ByteArray) (a_2 : Int) : Option Int :=
  grd (a_0.length < 4611686018427387904) <|
  forK a_0 (fun (i7 : Nat) x9 (_ : Unit) (nx8 : Unit → Option _) =>
    if ((Op.bytesLess x9.Low.toList a_1.toList) || (x9.Low.toList == a_1.toList)) = true then
      if (Op.bytesLess a_1.toList x9.End.toList) = true then
        callK (p_impl_atMost x9.Seqs a_2) fun y12 =>
        some y12
      else
        nx8 ()
    else
      nx8 ()) () (fun (_ : Unit) =>
    some 0)

set_option maxHeartbeats 4000000 in
theorem L_impl_coverSeq (a_0 : List Fragment) (a_1 : ByteArray) (a_2 : Int) {r : Int} (h : p_impl_coverSeq a_0 a_1 a_2 = some r) : callL E 125 [.d (.arr (a_0.map rFragment)), ST a_1, IN a_2] ([] : Fo) = some (IN r, ([] : Fo)) := by
  unfold p_impl_coverSeq at h
  refine callW (fu := Try.f125) rfl rfl rfl NN ?_
  intro lp cl hlp hcl
  conv => lhs; whnf
  try rw [len_of (l := a_0) (r := rFragment)]
  obtain ⟨hl_i7, h⟩ := grd_inv h
  refine loop_for hlp (l := a_0) hl_i7 (fun (i7 : Nat) (_ : Unit) => ([.dead, ST a_1, IN a_2, .dead, .dead, .dead, .dead, .dead, .dead, .d (.arr (a_0.map rFragment)), IN (a_0.length : Int), IN (i7 : Int)] ++ List.replicate 18 .dead : List V)) (fun (i7 : Nat) (_ : Unit) => ([] : Fo)) (fun (r : Int) => ((IN r : V), ([] : Fo))) ?_ ?_ () _ (fun kk => by kernel_rfl) h
  · clear h
    rintro next_nx8 nx8 i7 hi_i7 hnx8 ⟨⟩ r h
    try dsimp only at h
    have hn_i7 : i7 < 4611686018427387904 := by omega
    have hx_x9 := get_map rFragment a_0 i7 hi_i7
    generalize a_0[i7] = x9 at h hx_x9
    have hd_i7 : (decide ((i7 : Int) < (a_0.length : Int))) = true := decide_eq_true (by omega)
    conv => lhs; whnf
    try (first | rw [hd_i7] | (split; (first | (rename_i hx; exact absurd (hd_i7.symm.trans hx) (by decide)) | (rotate_left; rename_i hx; exact absurd (hd_i7.symm.trans hx) (by decide)))))
    conv => lhs; whnf
    try (rw [decide_eq_true hq_x9]; conv => lhs; whnf)
    rw [hx_x9]
    conv => lhs; whnf
    rw [hx_x9]
    conv => lhs; whnf
    cases hb10 : ((Op.bytesLess x9.Low.toList a_1.toList) || (x9.Low.toList == a_1.toList))
    · replace h := ifF h (booF hb10); conv => lhs; whnf
      try (rw [hb10]; conv => lhs; whnf)
      try (rw [hb10]; conv => lhs; whnf)
      try (rw [hb10]; conv => lhs; whnf)
      try (rw [hb10]; conv => lhs; whnf)
      rw [wrap_nat i7 (by have := hn_i7; omega)]
      exact hnx8 _ _ _ _ (fun kk => by kernel_rfl) h
    · replace h := ifT h hb10; conv => lhs; whnf
      try (rw [hb10]; conv => lhs; whnf)
      try (rw [hb10]; conv => lhs; whnf)
      try (rw [hb10]; conv => lhs; whnf)
      try (rw [hb10]; conv => lhs; whnf)
      cases hb11 : (Op.bytesLess a_1.toList x9.End.toList)
      · replace h := ifF h (booF hb11); conv => lhs; whnf
        rw [wrap_nat i7 (by have := hn_i7; omega)]
        exact hnx8 _ _ _ _ (fun kk => by kernel_rfl) h
      · replace h := ifT h hb11; conv => lhs; whnf
        obtain ⟨y12, h_y12, h⟩ := callK_inv h
        rw [cl_eq hcl (L_impl_atMost x9.Seqs a_2 h_y12)]
        rotate_left
        · show _ = _; kernel_rfl
        · show _ = _; kernel_rfl
        conv => lhs; whnf
        obtain rfl := Option.some.inj h; show _ = _; kernel_rfl

  · clear h
    rintro next_nx8 ⟨⟩ r h
    try dsimp only at h
    have hd_i7 : (decide ((a_0.length : Int) < (a_0.length : Int))) = false := decide_eq_false (by omega)
    conv => lhs; whnf
    try (first | rw [hd_i7] | (split; (first | (rename_i hx; exact absurd (hd_i7.symm.trans hx) (by decide)) | (rotate_left; rename_i hx; exact absurd (hd_i7.symm.trans hx) (by decide)))))
    conv => lhs; whnf
    obtain rfl := Option.some.inj h; show _ = _; kernel_rfl


noncomputable def p_impl_CoverSeq (a_0 : List Fragment) (a_1 : ByteArray) (a_2 : Int) : Option Int :=
  callK (p_impl_ValidFragments a_0) fun y1 =>
  if y1 = true then
    callK (p_impl_ValidKey a_1) fun y3 =>
    if y3 = true then
      callK (p_impl_coverSeq a_0 a_1 a_2) fun y5 =>
      some y5
    else
      some 0
  else
    some 0

set_option maxHeartbeats 4000000 in
theorem L_impl_CoverSeq (a_0 : List Fragment) (a_1 : ByteArray) (a_2 : Int) {r : Int} (h : p_impl_CoverSeq a_0 a_1 a_2 = some r) : callL E 45 [.d (.arr (a_0.map rFragment)), ST a_1, IN a_2] ([] : Fo) = some (IN r, ([] : Fo)) := by
  unfold p_impl_CoverSeq at h
  refine callW (fu := Try.f45) rfl rfl rfl NN ?_
  intro lp cl hlp hcl
  conv => lhs; whnf
  obtain ⟨y1, h_y1, h⟩ := callK_inv h
  rw [cl_eq hcl (L_impl_ValidFragments a_0 h_y1)]
  rotate_left
  · show _ = _; kernel_rfl
  · show _ = _; kernel_rfl
  conv => lhs; whnf
  cases hb2 : y1
  · replace h := ifF h (booF hb2); conv => lhs; whnf
    try (rw [hb2]; conv => lhs; whnf)
    try (rw [hb2]; conv => lhs; whnf)
    try (rw [hb2]; conv => lhs; whnf)
    obtain rfl := Option.some.inj h; show _ = _; kernel_rfl

  · replace h := ifT h hb2; conv => lhs; whnf
    try (rw [hb2]; conv => lhs; whnf)
    obtain ⟨y3, h_y3, h⟩ := callK_inv h
    rw [cl_eq hcl (L_impl_ValidKey a_1 h_y3)]
    rotate_left
    · show _ = _; kernel_rfl
    · show _ = _; kernel_rfl
    conv => lhs; whnf
    try (rw [hb2]; conv => lhs; whnf)
    try (rw [hb2]; conv => lhs; whnf)
    cases hb4 : y3
    · replace h := ifF h (booF hb4); conv => lhs; whnf
      obtain rfl := Option.some.inj h; show _ = _; kernel_rfl

    · replace h := ifT h hb4; conv => lhs; whnf
      obtain ⟨y5, h_y5, h⟩ := callK_inv h
      rw [cl_eq hcl (L_impl_coverSeq a_0 a_1 a_2 h_y5)]
      rotate_left
      · show _ = _; kernel_rfl
      · show _ = _; kernel_rfl
      conv => lhs; whnf
      obtain rfl := Option.some.inj h; show _ = _; kernel_rfl


noncomputable def p_laws_FnPrune (a_0 : List Int) : Option Bool :=
  if (a_0.length : Int) > 400 then
    some true
  else
    callK (p_spec_A8Ranges a_0) fun y2 =>
    callK (p_impl_FragmentsOf y2) fun y3 =>
    callK (p_laws_a8Mix a_0 8) fun y4 =>
    callK (p_spec_A8Snapshots y4) fun y5 =>
    callK (p_impl_PruneFragments y3 y5) fun y6 =>
    if ¬ y6.2 = 0 then
      some false
    else
      callK (p_impl_ValidFragments y6.1) fun y8 =>
      if y8 = true then
        callK (p_impl_FragmentRecords y6.1) fun y10 =>
        callK (p_impl_FragmentRecords y3) fun y11 =>
        if (y10.length : Int) > (y11.length : Int) then
          some false
        else
          grd (appOk (1 + y5.length) 8 = true) <|
          grd ((5 : Int) < 4611686018427387904) <|
          forI (5 : Int) (fun (i29 : Nat) (_ : Unit) (nx30 : Unit → Option _) =>
            grd ((([1000000] : List Int) ++ y5).length < 4611686018427387904) <|
            forK (([1000000] : List Int) ++ y5) (fun (i38 : Nat) x40 (_ : Unit) (nx39 : Unit → Option _) =>
              getK ([(⟨#[97]⟩ : ByteArray), (⟨#[98]⟩ : ByteArray), (⟨#[99]⟩ : ByteArray), (⟨#[100]⟩ : ByteArray), (⟨#[101]⟩ : ByteArray)] : List ByteArray) (i29 : Int) fun x41 =>
              callK (p_impl_CoverSeq y6.1 x41 x40) fun y42 =>
              callK (p_impl_CoverSeq y3 x41 x40) fun y43 =>
              if ¬ y42 = y43 then
                some false
              else
                nx39 ()) () (fun (_ : Unit) =>
              nx30 ())) () (fun (_ : Unit) =>
            some true)
      else
        some false

set_option maxHeartbeats 4000000 in
theorem L_laws_FnPrune (a_0 : List Int) {r : Bool} (h : p_laws_FnPrune a_0 = some r) : callL E 7 [.d (.arr (a_0.map rU))] ([] : Fo) = some (BO r, ([] : Fo)) := by
  unfold p_laws_FnPrune at h
  refine callW (fu := Try.f7) rfl rfl rfl NN ?_
  intro lp cl hlp hcl
  conv => lhs; whnf
  try rw [len_of (l := a_0) (r := rU)]
  cases hb1 : (decide ((a_0.length : Int) > 400))
  · replace h := ifF h (decF hb1); conv => lhs; whnf
    obtain ⟨y2, h_y2, h⟩ := callK_inv h
    rw [cl_eq hcl (L_spec_A8Ranges a_0 h_y2)]
    rotate_left
    · show _ = _; kernel_rfl
    · show _ = _; kernel_rfl
    conv => lhs; whnf
    obtain ⟨y3, h_y3, h⟩ := callK_inv h
    rw [cl_eq hcl (L_impl_FragmentsOf y2 h_y3)]
    rotate_left
    · show _ = _; kernel_rfl
    · show _ = _; kernel_rfl
    conv => lhs; whnf
    obtain ⟨y4, h_y4, h⟩ := callK_inv h
    rw [cl_eq hcl (L_laws_a8Mix a_0 8 h_y4)]
    rotate_left
    · show _ = _; kernel_rfl
    · show _ = _; kernel_rfl
    conv => lhs; whnf
    obtain ⟨y5, h_y5, h⟩ := callK_inv h
    rw [cl_eq hcl (L_spec_A8Snapshots y4 h_y5)]
    rotate_left
    · show _ = _; kernel_rfl
    · show _ = _; kernel_rfl
    conv => lhs; whnf
    obtain ⟨y6, h_y6, h⟩ := callK_inv h
    rw [cl_eq hcl (L_impl_PruneFragments y3 y5 h_y6)]
    rotate_left
    · show _ = _; kernel_rfl
    · show _ = _; kernel_rfl
    conv => lhs; whnf
    cases hb7 : (y6.2 != 0)
    · replace h := ifF h ((fun h => not_not_intro (bneF h)) hb7); conv => lhs; whnf
      try (rw [hb7]; conv => lhs; whnf)
      obtain ⟨y8, h_y8, h⟩ := callK_inv h
      rw [cl_eq hcl (L_impl_ValidFragments y6.1 h_y8)]
      rotate_left
      · show _ = _; kernel_rfl
      · show _ = _; kernel_rfl
      conv => lhs; whnf
      try (rw [hb7]; conv => lhs; whnf)
      try (rw [hb7]; conv => lhs; whnf)
      cases hb9 : y8
      · replace h := ifF h (booF hb9); conv => lhs; whnf
        try (rw [hb9]; conv => lhs; whnf)
        try (rw [hb9]; conv => lhs; whnf)
        try (rw [hb9]; conv => lhs; whnf)
        try (rw [hb9]; conv => lhs; whnf)
        try (rw [hb9]; conv => lhs; whnf)
        try (rw [hb9]; conv => lhs; whnf)
        try (rw [hb9]; conv => lhs; whnf)
        obtain rfl := Option.some.inj h; show _ = _; kernel_rfl

      · replace h := ifT h hb9; conv => lhs; whnf
        try (rw [hb9]; conv => lhs; whnf)
        obtain ⟨y10, h_y10, h⟩ := callK_inv h
        rw [cl_eq hcl (L_impl_FragmentRecords y6.1 h_y10)]
        rotate_left
        · show _ = _; kernel_rfl
        · show _ = _; kernel_rfl
        conv => lhs; whnf
        try (rw [hb9]; conv => lhs; whnf)
        try rw [len_of (l := y10) (r := rRecord)]
        try (rw [hb9]; conv => lhs; whnf)
        try (rw [hb9]; conv => lhs; whnf)
        obtain ⟨y11, h_y11, h⟩ := callK_inv h
        rw [cl_eq hcl (L_impl_FragmentRecords y3 h_y11)]
        rotate_left
        · show _ = _; kernel_rfl
        · show _ = _; kernel_rfl
        conv => lhs; whnf
        try (rw [hb9]; conv => lhs; whnf)
        try rw [len_of (l := y11) (r := rRecord)]
        try (rw [hb9]; conv => lhs; whnf)
        try (rw [hb9]; conv => lhs; whnf)
        cases hb12 : (decide ((y10.length : Int) > (y11.length : Int)))
        · replace h := ifF h (decF hb12); conv => lhs; whnf
          obtain ⟨hg45, h⟩ := grd_inv h
          rw [app_eq hg45 ?h1 ?h2]
          case h1 => first | exact rfl | (simp only [List.length_map, List.length_cons, List.length_nil]; done) | (rw [List.length_map]; rfl)
          case h2 => exact rfl
          conv => lhs; whnf
          rw [allLen_map rI _ rI_len]
          conv => lhs; whnf
          first | (rw [map_app_of (r := rI) (l := ([1000000] : List Int)) (m := y5) ?hh]; case hh => exact rfl) | skip
          obtain ⟨hl_i29, h⟩ := grd_inv h
          refine loop_forI hlp (n := (5 : Int)) hl_i29 (fun (i29 : Nat) (_ : Unit) => ([.dead, .dead, .dead, .d (.arr (y3.map rFragment)), .dead, .d (.arr (y6.1.map rFragment)), .dead, .sl 0, .sl 1, IN (i29 : Int)] ++ List.replicate 69 .dead : List V)) (fun (i29 : Nat) (_ : Unit) => ([some (.arr 2 1 ((([1000000] : List Int) ++ y5).map rI)), some (.arr 9 1 (([(⟨#[97]⟩ : ByteArray), (⟨#[98]⟩ : ByteArray), (⟨#[99]⟩ : ByteArray), (⟨#[100]⟩ : ByteArray), (⟨#[101]⟩ : ByteArray)] : List ByteArray).map rS))] : Fo)) (fun (r : Bool) => ((BO r : V), ([] : Fo))) ?_ ?_ () _ (fun kk => by kernel_rfl) h
          · clear h
            rintro next_nx30 nx30 i29 hi_i29 hnx30 ⟨⟩ r h
            try dsimp only at h
            have hn_i29 : i29 < 4611686018427387904 := by omega
            have hd_i29 : (decide ((i29 : Int) < 5)) = true := decide_eq_true (by omega)
            conv => lhs; whnf
            try (first | rw [hd_i29] | (split; (first | (rename_i hx; exact absurd (hd_i29.symm.trans hx) (by decide)) | (rotate_left; rename_i hx; exact absurd (hd_i29.symm.trans hx) (by decide)))))
            conv => lhs; whnf
            obtain ⟨hl_i38, h⟩ := grd_inv h
            refine loop_for hlp (l := (([1000000] : List Int) ++ y5)) hl_i38 (fun (i38 : Nat) (_ : Unit) => ([.dead, .dead, .dead, .d (.arr (y3.map rFragment)), .dead, .d (.arr (y6.1.map rFragment)), .dead, .sl 0, .sl 1, IN (i29 : Int), IN (i38 : Int)] ++ List.replicate 68 .dead : List V)) (fun (i38 : Nat) (_ : Unit) => ([some (.arr 2 1 ((([1000000] : List Int) ++ y5).map rI)), some (.arr 9 1 (([(⟨#[97]⟩ : ByteArray), (⟨#[98]⟩ : ByteArray), (⟨#[99]⟩ : ByteArray), (⟨#[100]⟩ : ByteArray), (⟨#[101]⟩ : ByteArray)] : List ByteArray).map rS))] : Fo)) (fun (r : Bool) => ((BO r : V), ([] : Fo))) ?_ ?_ () _ (fun kk => by kernel_rfl) h
            · clear h
              rintro next_nx39 nx39 i38 hi_i38 hnx39 ⟨⟩ r h
              try dsimp only at h
              have hn_i38 : i38 < 4611686018427387904 := by omega
              have hx_x40 := get_map rI (([1000000] : List Int) ++ y5) i38 hi_i38
              generalize (([1000000] : List Int) ++ y5)[i38] = x40 at h hx_x40
              have hd_i38 : (decide ((i38 : Int) < ((([1000000] : List Int) ++ y5).length : Int))) = true := decide_eq_true (by omega)
              conv => lhs; whnf
              try rw [len_of (l := (([1000000] : List Int) ++ y5)) (r := rI)]
              try (first | rw [hd_i38] | (split; (first | (rename_i hx; exact absurd (hd_i38.symm.trans hx) (by decide)) | (rotate_left; rename_i hx; exact absurd (hd_i38.symm.trans hx) (by decide)))))
              conv => lhs; whnf
              obtain ⟨x41, hq_x41, hx_x41', h⟩ := getK_inv h
              have hx_x41 : ([[dS (⟨#[97]⟩ : ByteArray)], [dS (⟨#[98]⟩ : ByteArray)], [dS (⟨#[99]⟩ : ByteArray)], [dS (⟨#[100]⟩ : ByteArray)], [dS (⟨#[101]⟩ : ByteArray)]] : List (List D))[(Int.toNat (i29 : Int))]? = _ := get_of (r := rS) hx_x41'
              try (rw [decide_eq_true hq_x41]; conv => lhs; whnf)
              first | rw [hx_x41] | rw [get_of (r := rS) hx_x41']
              conv => lhs; whnf
              first | rw [hx_x41] | rw [get_of (r := rS) hx_x41']
              conv => lhs; whnf
              try (rw [decide_eq_true hq_x40]; conv => lhs; whnf)
              rw [hx_x40]
              conv => lhs; whnf
              rw [hx_x40]
              conv => lhs; whnf
              obtain ⟨y42, h_y42, h⟩ := callK_inv h
              rw [cl_eq hcl (L_impl_CoverSeq y6.1 x41 x40 h_y42)]
              rotate_left
              · show _ = _; kernel_rfl
              · show _ = _; kernel_rfl
              conv => lhs; whnf
              try (rw [decide_eq_true hq_x41]; conv => lhs; whnf)
              first | rw [hx_x41] | rw [get_of (r := rS) hx_x41']
              conv => lhs; whnf
              first | rw [hx_x41] | rw [get_of (r := rS) hx_x41']
              conv => lhs; whnf
              try (rw [decide_eq_true hq_x40]; conv => lhs; whnf)
              rw [hx_x40]
              conv => lhs; whnf
              rw [hx_x40]
              conv => lhs; whnf
              obtain ⟨y43, h_y43, h⟩ := callK_inv h
              rw [cl_eq hcl (L_impl_CoverSeq y3 x41 x40 h_y43)]
              rotate_left
              · show _ = _; kernel_rfl
              · show _ = _; kernel_rfl
              conv => lhs; whnf
              cases hb44 : (y42 != y43)
              · replace h := ifF h ((fun h => not_not_intro (bneF h)) hb44); conv => lhs; whnf
                rw [wrap_nat i38 (by have := hn_i38; omega)]
                exact hnx39 _ _ _ _ (fun kk => by kernel_rfl) h
              · replace h := ifT h (bneT hb44); conv => lhs; whnf
                obtain rfl := Option.some.inj h; show _ = _; kernel_rfl

            · clear h
              rintro next_nx39 ⟨⟩ r h
              try dsimp only at h
              have hd_i38 : (decide (((([1000000] : List Int) ++ y5).length : Int) < ((([1000000] : List Int) ++ y5).length : Int))) = false := decide_eq_false (by omega)
              conv => lhs; whnf
              try rw [len_of (l := (([1000000] : List Int) ++ y5)) (r := rI)]
              try (first | rw [hd_i38] | (split; (first | (rename_i hx; exact absurd (hd_i38.symm.trans hx) (by decide)) | (rotate_left; rename_i hx; exact absurd (hd_i38.symm.trans hx) (by decide)))))
              conv => lhs; whnf
              rw [wrap_nat i29 (by have := hn_i29; omega)]
              exact hnx30 _ _ _ _ (fun kk => by kernel_rfl) h
          · clear h
            rintro next_nx30 ⟨⟩ r h
            try dsimp only at h
            have hd_i29 : (decide (((Int.toNat 5) : Int) < 5)) = false := decide_eq_false (by omega)
            conv => lhs; whnf
            try (first | rw [hd_i29] | (split; (first | (rename_i hx; exact absurd (hd_i29.symm.trans hx) (by decide)) | (rotate_left; rename_i hx; exact absurd (hd_i29.symm.trans hx) (by decide)))))
            conv => lhs; whnf
            obtain rfl := Option.some.inj h; show _ = _; kernel_rfl

        · replace h := ifT h (decT hb12); conv => lhs; whnf
          obtain rfl := Option.some.inj h; show _ = _; kernel_rfl

    · replace h := ifT h (bneT hb7); conv => lhs; whnf
      try (rw [hb7]; conv => lhs; whnf)
      try (rw [hb7]; conv => lhs; whnf)
      try (rw [hb7]; conv => lhs; whnf)
      obtain rfl := Option.some.inj h; show _ = _; kernel_rfl

  · replace h := ifT h (decT hb1); conv => lhs; whnf
    obtain rfl := Option.some.inj h; show _ = _; kernel_rfl

/-! ### Strings in order -/
theorem bl_irr : ∀ x : List UInt8, Op.bytesLess x x = false
  | [] => rfl
  | a :: x => by simp [Op.bytesLess, bl_irr x, UInt8.lt_irrefl]
theorem bl_tr : ∀ {x y z : List UInt8}, Op.bytesLess x y = true → Op.bytesLess y z = true → Op.bytesLess x z = true
  | _, [], _, h, _ => by
    rename_i x _
    cases x <;> simp [Op.bytesLess] at h
  | _, b :: y, [], _, h => by simp [Op.bytesLess] at h
  | [], b :: y, c :: z, _, _ => rfl
  | a :: x, b :: y, c :: z, h1, h2 => by
    simp only [Op.bytesLess, Bool.or_eq_true, Bool.and_eq_true, decide_eq_true_eq, beq_iff_eq] at h1 h2 ⊢
    rcases h1 with h1 | ⟨rfl, h1⟩
    · rcases h2 with h2 | ⟨rfl, h2⟩
      · exact .inl (UInt8.lt_trans h1 h2)
      · exact .inl h1
    · rcases h2 with h2 | ⟨rfl, h2⟩
      · exact .inl h2
      · exact .inr ⟨rfl, bl_tr h1 h2⟩
theorem bl_tri : ∀ {x y : List UInt8}, Op.bytesLess x y = false → Op.bytesLess y x = false → x = y
  | [], [], _, _ => rfl
  | [], _ :: _, h, _ => by simp [Op.bytesLess] at h
  | _ :: _, [], _, h => by simp [Op.bytesLess] at h
  | a :: x, b :: y, h1, h2 => by
    simp only [Op.bytesLess, Bool.or_eq_false_iff, decide_eq_false_iff_not, Bool.and_eq_false_iff, beq_eq_false_iff_ne, ne_eq] at h1 h2
    have he : a = b := by
      rcases UInt8.lt_or_eq_of_le (UInt8.not_lt.mp h2.1) with h | h
      · exact absurd h h1.1
      · exact h
    subst he
    rcases h1.2 with h | h
    · exact absurd rfl h
    · rcases h2.2 with h' | h'
      · exact absurd rfl h'
      · rw [bl_tri h h']
def kl (a b : ByteArray) : Prop := Op.bytesLess a.toList b.toList = true
theorem kl_irr (a : ByteArray) : ¬ kl a a := by unfold kl; rw [bl_irr]; simp
theorem kl_tr (a b c : ByteArray) (h1 : kl a b) (h2 : kl b c) : kl a c := bl_tr h1 h2
theorem kl_tri (a b : ByteArray) (h1 : ¬ kl a b) (h2 : ¬ kl b a) : a = b := by
  unfold kl at h1 h2
  have := bl_tri (by simpa using h1) (by simpa using h2)
  rw [toList_data, toList_data] at this
  exact bytes_ext this
theorem kl_b (a b : ByteArray) : (Op.bytesLess a.toList b.toList = true) = kl a b := rfl
theorem kl_as {a b : ByteArray} (h : kl a b) : ¬ kl b a := fun h2 => kl_irr _ (kl_tr _ _ _ h h2)
theorem kl_ne {a b : ByteArray} (h : kl a b) : a ≠ b := fun e => kl_irr a (by rw [← e] at h; exact h)
theorem kl_empty (a : ByteArray) : ¬ kl a ⟨#[]⟩ := by
  unfold kl
  rw [show (⟨#[]⟩ : ByteArray).toList = [] from by rw [toList_data]]
  cases a.toList <;> simp [Op.bytesLess]
theorem kl_pos {a : ByteArray} (h : a ≠ ⟨#[]⟩) : kl ⟨#[]⟩ a := Classical.byContradiction fun hn => h (kl_tri _ _ (kl_empty a) hn)
/-! ### Orders one behind the other -/
def Lx {α κ : Type} (f : α → κ) (r : κ → κ → Prop) (S : α → α → Prop) (a b : α) : Prop := r (f a) (f b) ∨ (f a = f b ∧ S a b)
theorem Lx.tr {α κ : Type} {f : α → κ} {r : κ → κ → Prop} {S : α → α → Prop} (hr : ∀ x y z, r x y → r y z → r x z) (hS : ∀ a b c, S a b → S b c → S a c) (a b c : α) (h1 : Lx f r S a b) (h2 : Lx f r S b c) : Lx f r S a c := by
  rcases h1 with h1 | ⟨e1, h1⟩ <;> rcases h2 with h2 | ⟨e2, h2⟩
  · exact .inl (hr _ _ _ h1 h2)
  · exact .inl (e2 ▸ h1)
  · exact .inl (e1 ▸ h2)
  · exact .inr ⟨e1.trans e2, hS _ _ _ h1 h2⟩
theorem Lx.irr {α κ : Type} {f : α → κ} {r : κ → κ → Prop} {S : α → α → Prop} (hr : ∀ x, ¬ r x x) (hS : ∀ a, ¬ S a a) (a : α) : ¬ Lx f r S a a := by
  rintro (h | ⟨_, h⟩)
  · exact hr _ h
  · exact hS _ h
theorem Lx.tri {α κ : Type} {f : α → κ} {r : κ → κ → Prop} {S : α → α → Prop} (hr : ∀ x y, ¬ r x y → ¬ r y x → x = y) {a b : α} (h1 : ¬ Lx f r S a b) (h2 : ¬ Lx f r S b a) : f a = f b ∧ ¬ S a b ∧ ¬ S b a := by
  have e := hr (f a) (f b) (fun h => h1 (.inl h)) (fun h => h2 (.inl h))
  exact ⟨e, fun h => h1 (.inr ⟨e, h⟩), fun h => h2 (.inr ⟨e.symm, h⟩)⟩
/-- The internal order. -/
def RL : Record → Record → Prop := Lx (·.Key) kl (Lx (·.Seq) (· > ·) (Lx (·.Kind) (· < ·) (Lx (·.Value) kl fun a b => kl a.End b.End)))
theorem RL_tr (a b c : Record) : RL a b → RL b c → RL a c := by
  unfold RL
  refine Lx.tr kl_tr (Lx.tr (fun x y z h1 h2 => ?_) (Lx.tr (fun x y z h1 h2 => ?_) (Lx.tr kl_tr fun a b c h1 h2 => ?_))) a b c
  · exact Int.lt_trans h2 h1
  · exact Int.lt_trans h1 h2
  · exact kl_tr _ _ _ h1 h2
theorem RL_irr (a : Record) : ¬ RL a a := by
  unfold RL
  refine Lx.irr kl_irr (Lx.irr (fun x h => ?_) (Lx.irr (fun x h => ?_) (Lx.irr kl_irr fun a h => ?_))) a
  · exact Int.lt_irrefl _ h
  · exact Int.lt_irrefl _ h
  · exact kl_irr _ h
theorem RL_tri {a b : Record} (h1 : ¬ RL a b) (h2 : ¬ RL b a) : a = b := by
  obtain ⟨e1, h1, h2⟩ := Lx.tri kl_tri h1 h2
  obtain ⟨e2, h1, h2⟩ := Lx.tri (fun x y (h1 : ¬ x > y) (h2 : ¬ y > x) => by omega) h1 h2
  obtain ⟨e3, h1, h2⟩ := Lx.tri (fun x y (h1 : ¬ x < y) (h2 : ¬ y < x) => by omega) h1 h2
  obtain ⟨e4, h1, h2⟩ := Lx.tri kl_tri h1 h2
  have e5 := kl_tri _ _ h1 h2
  cases a; cases b
  simp_all
theorem RL_key {a b : Record} (h : RL a b) : kl a.Key b.Key ∨ a.Key = b.Key := h.imp id (·.1)
noncomputable def rl (a b : Record) : Bool := @decide (RL a b) (Classical.propDecidable _)
theorem rl_iff {a b : Record} : rl a b = true ↔ RL a b := by unfold rl; exact @decide_eq_true_iff _ (Classical.propDecidable _)
theorem rl_of {b : Bool} {x y : Record} (h : b = true ↔ RL x y) : b = rl x y := by rw [Bool.eq_iff_iff, h, rl_iff]
/-- Two rows in strict order with the same elements are one. -/
theorem sorted_ext {α : Type} {r : α → α → Prop} (tr : ∀ a b c, r a b → r b c → r a c) (irr : ∀ a, ¬ r a a) : ∀ {l m : List α}, l.Pairwise r → m.Pairwise r → (∀ x, x ∈ l ↔ x ∈ m) → l = m
  | [], [], _, _, _ => rfl
  | [], y :: m, _, _, h => by have := (h y).mpr (by simp); simp at this
  | x :: l, [], _, _, h => by have := (h x).mp (by simp); simp at this
  | x :: l, y :: m, h1, h2, h => by
    rw [List.pairwise_cons] at h1 h2
    have e : x = y := by
      rcases List.mem_cons.mp ((h x).mp (by simp)) with e | hx
      · exact e
      · rcases List.mem_cons.mp ((h y).mpr (by simp)) with e | hy
        · exact e.symm
        · exact absurd (tr _ _ _ (h1.1 y hy) (h2.1 x hx)) (irr x)
    subst e
    congr 1
    refine sorted_ext tr irr h1.2 h2.2 fun z => ?_
    constructor
    · intro hz
      rcases List.mem_cons.mp ((h z).mp (by simp [hz])) with e | h'
      · subst e; exact absurd (h1.1 z hz) (irr z)
      · exact h'
    · intro hz
      rcases List.mem_cons.mp ((h z).mpr (by simp [hz])) with e | h'
      · subst e; exact absurd (h2.1 z hz) (irr z)
      · exact h'
/-! ### A record put to its place -/
noncomputable def into : List Record → Record → List Record
  | [], r => [r]
  | x :: l, r => if rl x r = true then x :: into l r else @ite _ (x = r) (Classical.propDecidable _) (x :: l) (r :: x :: l)
theorem into_mem {x r : Record} : ∀ {l : List Record}, x ∈ into l r ↔ x ∈ l ∨ x = r
  | [] => by simp [into]
  | y :: l => by
    unfold into
    split
    · rw [List.mem_cons, into_mem (l := l), List.mem_cons, or_assoc]
    · split
      · rename_i e
        subst e
        simp
        intro h; subst h; exact .inl rfl
      · simp only [List.mem_cons]
        constructor
        · rintro (h | h | h)
          · exact .inr h
          · exact .inl (.inl h)
          · exact .inl (.inr h)
        · rintro ((h | h) | h)
          · exact .inr (.inl h)
          · exact .inr (.inr h)
          · exact .inl h
theorem into_sorted {r : Record} : ∀ {l : List Record}, l.Pairwise RL → (into l r).Pairwise RL
  | [], _ => by simp [into]
  | y :: l, h => by
    unfold into
    rw [List.pairwise_cons] at h
    split
    · rename_i c
      refine List.pairwise_cons.mpr ⟨fun x hx => ?_, into_sorted h.2⟩
      rcases into_mem.mp hx with hx | rfl
      · exact h.1 x hx
      · exact rl_iff.mp c
    · rename_i c
      split
      · exact List.pairwise_cons.mpr h
      · rename_i e
        have hry : RL r y := Classical.byContradiction fun hn => e (RL_tri (fun h => c (rl_iff.mpr h)) hn)
        refine List.pairwise_cons.mpr ⟨fun x hx => ?_, List.pairwise_cons.mpr h⟩
        rcases List.mem_cons.mp hx with rfl | hx
        · exact hry
        · exact RL_tr _ _ _ hry (h.1 x hx)
theorem into_len {r : Record} : ∀ {l : List Record}, r ∉ l → (into l r).length = l.length + 1
  | [], _ => rfl
  | y :: l, h => by
    unfold into
    split
    · simp only [List.length_cons, into_len (l := l) (r := r) (fun hm => h (List.mem_cons_of_mem _ hm))]
    · split
      · rename_i e; exact absurd (by simp [e]) h
      · rfl
theorem into_len_le (r : Record) : ∀ (l : List Record), (into l r).length ≤ l.length + 1
  | [] => by simp [into]
  | y :: l => by
    unfold into
    split
    · have := into_len_le r l; simp only [List.length_cons]; omega
    · split <;> simp
theorem into_at {r : Record} : ∀ {l : List Record} {i : Nat} (hi : i < l.length), (∀ j (hj : j < i), rl (l[j]'(by omega)) r = true) → rl l[i] r = false → into l r = @ite _ (l[i] = r) (Classical.propDecidable _) l (l.take i ++ r :: l.drop i)
  | x :: l, 0, hi, _, h => by
    unfold into
    simp only [List.getElem_cons_zero] at h ⊢
    rw [if_neg (by rw [h]; decide)]
    by_cases e : x = r
    · rw [if_pos e, if_pos e]
    · rw [if_neg e, if_neg e]; rfl
  | x :: l, i + 1, hi, h1, h => by
    have h0 := h1 0 (by omega)
    simp only [List.getElem_cons_zero] at h0
    unfold into
    rw [if_pos h0, into_at (l := l) (i := i) (by simpa using hi) (fun j hj => by have := h1 (j + 1) (by omega); simpa using this) (by simpa using h)]
    simp only [List.getElem_cons_succ]
    split <;> rfl
theorem into_end {r : Record} : ∀ {l : List Record}, (∀ x ∈ l, rl x r = true) → into l r = l ++ [r]
  | [], _ => rfl
  | x :: l, h => by
    unfold into
    rw [if_pos (h x (by simp)), into_end fun y hy => h y (by simp [hy])]; rfl
theorem fold_into : ∀ (l acc : List Record), acc.Pairwise RL → (∀ x ∈ acc, ∀ y ∈ l, x ≠ y) → l.Pairwise (· ≠ ·) → (l.foldl into acc).Pairwise RL ∧ (∀ x, x ∈ l.foldl into acc ↔ x ∈ acc ∨ x ∈ l) ∧ (l.foldl into acc).length = acc.length + l.length
  | [], acc, h, _, _ => ⟨h, by simp, by simp⟩
  | y :: l, acc, h, h1, h2 => by
    rw [List.pairwise_cons] at h2
    rw [List.foldl_cons]
    obtain ⟨g1, g2, g3⟩ := fold_into l (into acc y) (into_sorted h) (fun x hx z hz => by
      rcases into_mem.mp hx with hx | rfl
      · exact h1 x hx z (by simp [hz])
      · exact h2.1 z hz) h2.2
    refine ⟨g1, fun x => ?_, ?_⟩
    · rw [g2, into_mem, List.mem_cons, or_assoc]
    · rw [g3, into_len (fun hm => h1 y hm y (by simp) rfl), List.length_cons]; omega
theorem fold_into_mem : ∀ (l acc : List Record) (x : Record), x ∈ l.foldl into acc ↔ x ∈ acc ∨ x ∈ l
  | [], acc, x => by simp
  | y :: l, acc, x => by rw [List.foldl_cons, fold_into_mem, into_mem, List.mem_cons, or_assoc]
theorem fold_into_sorted : ∀ (l acc : List Record), acc.Pairwise RL → (l.foldl into acc).Pairwise RL
  | [], acc, h => h
  | y :: l, acc, h => by rw [List.foldl_cons]; exact fold_into_sorted l _ (into_sorted h)
/-! ### Valid records, runs -/
def okKey (k : ByteArray) : Bool := inR (k.size : Int) 1 8
def isE (s : ByteArray) : Bool := s.toList == (⟨#[]⟩ : ByteArray).toList
theorem isE_iff {s : ByteArray} : isE s = true ↔ s = ⟨#[]⟩ := by unfold isE; rw [str_eq]; exact decide_eq_true_iff
def okRec (r : Record) : Bool := okKey r.Key && (inR r.Seq 1 1000000 && (if r.Kind = 1 then decide ((r.Value.size : Int) ≤ 16) && isE r.End else if r.Kind = 2 then isE r.Value && isE r.End else if r.Kind = 3 then isE r.Value && (okKey r.End && Op.bytesLess r.Key.toList r.End.toList) else false))
theorem okKey_ne {k : ByteArray} (h : okKey k = true) : k ≠ ⟨#[]⟩ := by
  rintro rfl
  have := inR_iff.mp h
  simp [ByteArray.size] at this
theorem okRec_seq {r : Record} (h : okRec r = true) : 1 ≤ r.Seq ∧ r.Seq ≤ 1000000 := by
  unfold okRec at h
  simp only [Bool.and_eq_true] at h
  exact inR_iff.mp h.2.1
theorem okRec_key {r : Record} (h : okRec r = true) : okKey r.Key = true := by
  unfold okRec at h
  simp only [Bool.and_eq_true] at h
  exact h.1
structure Run (l : List Record) : Prop where
  ok : ∀ r ∈ l, okRec r = true
  srt : l.Pairwise RL
  inj : ∀ a ∈ l, ∀ b ∈ l, a.Seq = b.Seq → a = b
theorem Run.sub {l m : List Record} (h : Run l) (hs : m.Sublist l) : Run m := ⟨fun r hr => h.ok r (hs.subset hr), h.srt.sublist hs, fun a ha b hb => h.inj a (hs.subset ha) b (hs.subset hb)⟩
theorem Run.filter {l : List Record} (h : Run l) (p : Record → Bool) : Run (l.filter p) := h.sub List.filter_sublist
theorem Run.nil : Run [] := ⟨fun r hr => by simp at hr, .nil, fun a ha => by simp at ha⟩
theorem Run.ne {l : List Record} (h : Run l) : l.Pairwise (· ≠ ·) := h.srt.imp fun hr e => by subst e; exact RL_irr _ hr
theorem Run.into {l : List Record} (h : Run l) {r : Record} (hr : okRec r = true) (hn : ∀ x ∈ l, x.Seq ≠ r.Seq) : Run (into l r) := by
  refine ⟨fun x hx => ?_, into_sorted h.srt, fun a ha b hb e => ?_⟩
  · rcases into_mem.mp hx with hx | rfl
    · exact h.ok x hx
    · exact hr
  · rcases into_mem.mp ha with a1 | a1 <;> rcases into_mem.mp hb with b1 | b1
    · exact h.inj a a1 b b1 e
    · exact absurd (by rw [e, b1]) (hn a a1)
    · exact absurd (by rw [← e, a1]) (hn b b1)
    · rw [a1, b1]
/-! ### What a record does to a key -/
def aff (r : Record) (k : ByteArray) : Bool := if r.Kind = 3 then (Op.bytesLess r.Key.toList k.toList || r.Key.toList == k.toList) && Op.bytesLess k.toList r.End.toList else r.Key.toList == k.toList
theorem aff_key {r : Record} (h : r.Kind ≠ 3) {k : ByteArray} (ha : aff r k = true) : r.Key = k := by
  unfold aff at ha
  rw [if_neg h, str_eq] at ha
  exact of_decide_eq_true ha

theorem less_cmp : ∀ (x y : List UInt8), Op.bytesLess x y = decide (Lib.compareBytes x y < 0)
  | _, [] => by
    rename_i x
    cases x <;> rfl
  | [], _ :: _ => rfl
  | a :: x, b :: y => by
    rw [Op.bytesLess, Lib.compareBytes, less_cmp x y]
    by_cases h1 : a < b
    · simp [h1]
    · by_cases h2 : b < a
      · have hne : a ≠ b := fun e => by subst e; exact h1 h2
        simp [h1, h2, hne]
      · have he : a = b := by
          have e1 : ¬ a.toNat < b.toNat := fun h => h1 (by rwa [UInt8.lt_iff_toNat_lt])
          have e2 : ¬ b.toNat < a.toNat := fun h => h2 (by rwa [UInt8.lt_iff_toNat_lt])
          exact UInt8.toNat_inj.mp (by omega)
        simp [h1, h2, he]
theorem cmp_zero : ∀ (x y : List UInt8), Lib.compareBytes x y = 0 ↔ x = y
  | [], [] => by simp [Lib.compareBytes]
  | [], _ :: _ => by simp [Lib.compareBytes]
  | _ :: _, [] => by simp [Lib.compareBytes]
  | a :: x, b :: y => by
    rw [Lib.compareBytes]
    by_cases h1 : a < b
    · have hne : a ≠ b := fun e => by subst e; rw [UInt8.lt_iff_toNat_lt] at h1; omega
      simp [h1, hne]
    · by_cases h2 : b < a
      · have hne : a ≠ b := fun e => by subst e; exact h1 h2
        simp [h1, h2, hne]
      · have he : a = b := by
          have e1 : ¬ a.toNat < b.toNat := fun h => h1 (by rwa [UInt8.lt_iff_toNat_lt])
          have e2 : ¬ b.toNat < a.toNat := fun h => h2 (by rwa [UInt8.lt_iff_toNat_lt])
          exact UInt8.toNat_inj.mp (by omega)
        simp [h1, h2, he, cmp_zero x y]
theorem cmpB_lt {a b : ByteArray} : cmpB a b < 0 ↔ kl a b := by
  unfold cmpB kl
  rw [toList_data, toList_data, less_cmp, decide_eq_true_iff]
theorem cmpB_eq {a b : ByteArray} : cmpB a b = 0 ↔ a = b := by
  unfold cmpB
  rw [cmp_zero]
  exact ⟨bytes_ext, fun h => by rw [h]⟩

/-! ### slices.Compact -/
/-- A list with what equals the one before it left out. -/
noncomputable def cptG {α : Type} : α → List α → List α
  | _, [] => []
  | last, x :: l => @ite _ (x = last) (Classical.propDecidable _) (cptG last l) (x :: cptG x l)
noncomputable def cpt {α : Type} : List α → List α
  | [] => []
  | x :: l => x :: cptG x l
theorem cptG_snoc {α : Type} (x : α) : ∀ (m : List α) (last : α), cptG last (m ++ [x]) = @ite _ (m.getLast?.getD last = x) (Classical.propDecidable _) (cptG last m) (cptG last m ++ [x])
  | [], last => by
    by_cases h : last = x
    · subst h; simp [cptG]
    · simp [cptG, h, Ne.symm h]
  | y :: m, last => by
    have e : (y :: m).getLast?.getD last = m.getLast?.getD y := by
      rw [List.getLast?_cons]; simp
    rw [e, List.cons_append, cptG, cptG, cptG_snoc x m last, cptG_snoc x m y]
    by_cases hy : y = last
    · subst hy
      simp
    · rw [if_neg hy, if_neg hy]
      by_cases h : m.getLast?.getD y = x
      · rw [if_pos h, if_pos h]
      · rw [if_neg h, if_neg h, List.cons_append]
theorem cpt_snoc {α : Type} (x : α) (m : List α) (hm : m ≠ []) : cpt (m ++ [x]) = @ite _ (m.getLast? = some x) (Classical.propDecidable _) (cpt m) (cpt m ++ [x]) := by
  cases m with
  | nil => exact absurd rfl hm
  | cons y m =>
    rw [List.cons_append, cpt, cpt, cptG_snoc]
    have e : ((y :: m).getLast? = some x) ↔ m.getLast?.getD y = x := by rw [List.getLast?_cons]; simp
    by_cases h : m.getLast?.getD y = x
    · rw [if_pos h, if_pos (e.mpr h)]
    · rw [if_neg h, if_neg (fun h2 => h (e.mp h2)), List.cons_append]
theorem cpt_take {α : Type} {l : List α} {k : Nat} (h1 : 1 ≤ k) (hk : k < l.length) : cpt (l.take (k + 1)) = @ite _ (l[k] = l[k - 1]'(by omega)) (Classical.propDecidable _) (cpt (l.take k)) (cpt (l.take k) ++ [l[k]]) := by
  have hne : l.take k ≠ [] := fun h => by have := congrArg List.length h; rw [List.length_take, List.length_nil] at this; omega
  rw [List.take_succ_eq_append_getElem hk, cpt_snoc _ _ hne]
  have e : ((l.take k).getLast? = some l[k]) ↔ l[k] = l[k - 1]'(by omega) := by
    rw [List.getLast?_take, if_neg (by omega), List.getElem?_eq_getElem (by omega)]
    simp [eq_comm]
  by_cases h : l[k] = l[k - 1]'(by omega)
  · rw [if_pos h, if_pos (e.mpr h)]
  · rw [if_neg h, if_neg (fun h2 => h (e.mp h2))]
theorem cptG_len {α : Type} : ∀ (l : List α) (last : α), (cptG last l).length ≤ l.length
  | [], _ => by simp [cptG]
  | x :: l, last => by
    unfold cptG
    split
    · have := cptG_len l last; simp only [List.length_cons]; omega
    · have := cptG_len l x; simp only [List.length_cons]; omega
theorem cpt_len {α : Type} : ∀ (l : List α), (cpt l).length ≤ l.length
  | [] => by simp [cpt]
  | x :: l => by have := cptG_len l x; simp only [cpt, List.length_cons]; omega
theorem cptG_mem {α : Type} {y : α} : ∀ {l : List α} {last : α}, y = last ∨ y ∈ cptG last l ↔ y = last ∨ y ∈ l
  | [], last => by simp [cptG]
  | x :: l, last => by
    unfold cptG
    by_cases h : x = last
    · subst h
      rw [if_pos rfl, cptG_mem (l := l)]; simp
    · rw [if_neg h, List.mem_cons, cptG_mem (l := l), List.mem_cons]
theorem cpt_mem {α : Type} {y : α} : ∀ {l : List α}, y ∈ cpt l ↔ y ∈ l
  | [] => by simp [cpt]
  | x :: l => by rw [cpt, List.mem_cons, cptG_mem, List.mem_cons]
/-- In a list that rises, or stays, nothing is there twice. -/
theorem cptG_sorted {α : Type} {r : α → α → Prop} (tr : ∀ a b c, r a b → r b c → r a c) : ∀ {l : List α} {last : α}, (last :: l).Pairwise (fun a b => a = b ∨ r a b) → (last :: cptG last l).Pairwise r
  | [], _, _ => by simp [cptG]
  | x :: l, last, h => by
    rw [List.pairwise_cons] at h
    unfold cptG
    by_cases e : x = last
    · subst e
      rw [if_pos rfl]
      exact cptG_sorted tr h.2
    · rw [if_neg e]
      have hx : r last x := (h.1 x (by simp)).resolve_left (Ne.symm e)
      have ih := cptG_sorted tr h.2
      refine List.pairwise_cons.mpr ⟨fun k hk => ?_, ih⟩
      rcases List.mem_cons.mp hk with rfl | hk
      · exact hx
      · exact tr _ _ _ hx ((List.pairwise_cons.mp ih).1 k hk)
theorem cpt_sorted {α : Type} {r : α → α → Prop} (tr : ∀ a b c, r a b → r b c → r a c) : ∀ {l : List α}, l.Pairwise (fun a b => a = b ∨ r a b) → (cpt l).Pairwise r
  | [], _ => by simp [cpt]
  | x :: l, h => cptG_sorted tr h
/-- slices.Compact as it is printed, for an equality eq; z is the element that fills the end. -/
noncomputable def cmpG {α : Type} (z : α) (eq : α → α → Bool) (a_0 : List α) : Option (List α) :=
  if (a_0.length : Int) < 2 then
    some a_0
  else
    iterK (fun (v2 : Int) (nx3 : Int → Option _) =>
      if v2 < (a_0.length : Int) then
        getK a_0 v2 fun x5 =>
        getK a_0 (IntKind.i64.wrap (v2 - 1)) fun x6 =>
        if (eq x5 x6) = true then
          grd (0 ≤ v2 ∧ v2 < (a_0.length : Int)) <|
          iterK (fun ((v8, v9, v10) : (Int × Int × (List α))) (nx11 : (Int × Int × (List α)) → Option _) =>
            if v9 < ((List.drop (Int.toNat v2) v10).length : Int) then
              grd (0 ≤ v9) <|
              getN v10 ((Int.toNat v2) + Int.toNat v9) fun x13 =>
              grd (0 ≤ (IntKind.i64.wrap (v9 - 1))) <|
              getN v10 ((Int.toNat v2) + Int.toNat (IntKind.i64.wrap (v9 - 1))) fun x14 =>
              if (eq x13 x14) = true then
                nx11 (v8, (IntKind.i64.wrap (v9 + 1)), v10)
              else
                grd (0 ≤ v9) <|
                getK v10 v8 fun x16 =>
                nx11 ((IntKind.i64.wrap (v8 + 1)), (IntKind.i64.wrap (v9 + 1)), (v10.set (Int.toNat v8) x13))
            else
              grd (0 ≤ v8 ∧ v8 < (v10.length : Int)) <|
              grd (0 ≤ v8 ∧ v8 ≤ ((v10.take (Int.toNat v8) ++ List.replicate (v10.length - (Int.toNat v8)) z).length : Int)) <|
              some ((v10.take (Int.toNat v8) ++ List.replicate (v10.length - (Int.toNat v8)) z).take (Int.toNat v8))) NN (v2, 1, a_0)
        else
          nx3 (IntKind.i64.wrap (v2 + 1))
      else
        some a_0) NN 1
theorem cmpG_ok {α : Type} (z : α) {eq : α → α → Bool} (heq : ∀ x y, eq x y = true ↔ x = y) (l : List α) (hl : l.length ≤ 1000000) : cmpG z eq l = some (cpt l) := by
  unfold cmpG
  by_cases h2 : (l.length : Int) < 2
  · rw [if_pos h2]
    match l, h2 with
    | [], _ => rfl
    | [x], _ => rfl
    | x :: y :: m, h => simp only [List.length_cons] at h; omega
  rw [if_neg h2]
  refine iterK_rule (fun d (s : Int) => ∃ k : Nat, s = (k : Int) ∧ 1 ≤ k ∧ k ≤ l.length ∧ d = l.length - k ∧ cpt (l.take k) = l.take k) ?_ (l.length - 1) 1 (by unfold NN; omega) ⟨1, rfl, by omega, by omega, rfl, by
    cases l with
    | nil => simp at h2
    | cons x m => simp [cpt, cptG]⟩
  rintro d v2 ⟨k, rfl, h1, hk, rfl, hc⟩ nx hnx
  by_cases hlt : k < l.length
  · rw [if_pos (by omega), getK_lt hlt, wrap_sm _ (by omega) (by omega), show (k : Int) - 1 = ((k - 1 : Nat) : Int) by omega, getK_lt (by omega)]
    have hnext := cpt_take h1 hlt
    by_cases he : l[k] = l[k - 1]'(by omega)
    · rw [if_pos ((heq _ _).mpr he), grd_pos (by omega)]
      rw [if_pos he] at hnext
      refine iterK_rule (fun d (s : Int × Int × List α) => ∃ w r : Nat, s.1 = w ∧ s.2.1 = r ∧ 1 ≤ r ∧ k + r ≤ l.length ∧ d = l.length - (k + r) ∧ w ≤ k + r - 1 ∧ s.2.2.length = l.length ∧ s.2.2.take w = cpt (l.take (k + r)) ∧ s.2.2.drop (k + r - 1) = l.drop (k + r - 1)) ?_ (l.length - (k + 1)) _ (by unfold NN; omega)
        ⟨k, 1, rfl, rfl, by omega, by omega, rfl, by omega, rfl, by dsimp only; rw [hnext, hc], rfl⟩
      rintro d ⟨v8, v9, v10⟩ ⟨w, r, e1, e2, e3, e4, e5, e6, e7, e8, e9⟩ nx hnx
      dsimp only at e1 e2 e7 e8 e9 hnx ⊢
      subst e1 e2
      rw [List.length_drop, Int.toNat_natCast, e7]
      have hwl : (cpt (l.take (k + r))).length = w := by rw [← e8, List.length_take]; omega
      by_cases hr : k + r < l.length
      · have hx : v10[k + r]'(by omega) = l[k + r] := by
          have a := congrArg (fun t => t[1]?) e9
          simp only [List.getElem?_drop] at a
          rw [show k + r - 1 + 1 = k + r by omega, List.getElem?_eq_getElem (by omega), List.getElem?_eq_getElem hr] at a
          exact Option.some.inj a
        have hp : v10[k + r - 1]'(by omega) = l[k + r - 1] := by
          have a := congrArg (fun t => t[0]?) e9
          simp only [List.getElem?_drop, Nat.add_zero] at a
          rw [List.getElem?_eq_getElem (by omega), List.getElem?_eq_getElem (by omega)] at a
          exact Option.some.inj a
        have hn := cpt_take (l := l) (k := k + r) (by omega) hr
        have hd : ∀ u : List α, u.length = l.length → u.drop (k + r - 1) = l.drop (k + r - 1) → u.drop (k + r) = l.drop (k + r) := fun u _ h => by
          have := congrArg (List.drop 1) h
          simpa [List.drop_drop, show k + r - 1 + 1 = k + r by omega] using this
        rw [if_pos (by omega), grd_pos (by omega), Int.toNat_natCast, getN_lt (by omega), wrap_sm _ (by omega) (by omega), grd_pos (by omega), show ((r : Int) - 1).toNat = r - 1 by omega, getN_lt (by omega), hx]
        simp only [show k + (r - 1) = k + r - 1 by omega, hp]
        by_cases hq : l[k + r] = l[k + r - 1]'(by omega)
        · rw [if_pos hq] at hn
          rw [if_pos ((heq _ _).mpr hq), wrap_sm _ (by omega) (by omega)]
          exact hnx (l.length - (k + (r + 1))) _ (by omega) ⟨w, r + 1, rfl, by dsimp only; omega, by omega, by omega, rfl, by omega, e7, by dsimp only; rw [← Nat.add_assoc, hn, e8], by dsimp only; exact hd _ e7 e9⟩
        · rw [if_neg hq] at hn
          rw [if_neg (fun h => hq ((heq _ _).mp h)), grd_pos (by omega), getK_lt (by omega), wrap_sm _ (by omega) (by omega), wrap_sm _ (by omega) (by omega), Int.toNat_natCast]
          refine hnx (l.length - (k + (r + 1))) _ (by omega) ⟨w + 1, r + 1, by dsimp only; omega, by dsimp only; omega, by omega, by omega, rfl, by omega, by simpa using e7, ?_, ?_⟩
          · dsimp only
            rw [← Nat.add_assoc, hn, ← e8, List.take_succ_eq_append_getElem (by simp; omega), List.take_set_of_le (by omega)]
            simp
          · dsimp only
            rw [show k + (r + 1) - 1 = k + r by omega, List.drop_set_of_lt (by omega)]
            exact hd _ e7 e9
      · rw [if_neg (by omega), Int.toNat_natCast, grd_pos (by omega), grd_pos (by simp; omega), List.take_append_of_le_length (by simp; omega), List.take_take, Nat.min_self, e8, List.take_of_length_le (by omega)]
    · rw [if_neg (fun h => he ((heq _ _).mp h)), wrap_sm _ (by omega) (by omega)]
      rw [if_neg he] at hnext
      exact hnx (l.length - (k + 1)) _ (by omega) ⟨k + 1, by omega, by omega, by omega, rfl, by rw [hnext, hc, List.take_succ_eq_append_getElem hlt]⟩
  · have : k = l.length := by omega
    subst this
    rw [if_neg (by omega)]
    rw [List.take_length] at hc
    rw [hc]

/-! ### Sorted rows -/
theorem less_lt : ∀ x y : List UInt8, Op.bytesLess x y = true ↔ x < y
  | _, [] => by
    rename_i x
    cases x <;> simp [Op.bytesLess]
  | [], _ :: _ => by simp [Op.bytesLess]
  | a :: x, b :: y => by
    rw [List.cons_lt_cons_iff, ← less_lt x y]
    simp [Op.bytesLess]
theorem sortI_perm (l : List Int) : (sortI l).Perm l := List.mergeSort_perm _ _
theorem sortI_sorted (l : List Int) : (sortI l).Pairwise (· ≤ ·) := by
  have h := List.pairwise_mergeSort (le := fun x y : Int => decide (x ≤ y)) (fun a b c h1 h2 => by simp only [decide_eq_true_eq] at h1 h2 ⊢; omega) (fun a b => by simp only [Bool.or_eq_true, decide_eq_true_eq]; omega) l
  exact h.imp fun h => by simpa using h
theorem sortS_perm (l : List ByteArray) : (sortS l).Perm l := by
  have h := (List.mergeSort_perm (l.map fun b => b.data.toList) fun x y => decide (x ≤ y)).map fun b => (⟨b.toArray⟩ : ByteArray)
  have e : (l.map fun b => b.data.toList).map (fun b => (⟨b.toArray⟩ : ByteArray)) = l := by
    rw [List.map_map]
    conv => rhs; rw [← List.map_id l]
    exact List.map_congr_left fun b _ => rfl
  rw [e] at h
  exact h
theorem sortS_sorted (l : List ByteArray) : (sortS l).Pairwise fun a b => a = b ∨ kl a b := by
  have h := List.pairwise_mergeSort (le := fun x y : List UInt8 => decide (x ≤ y)) (fun a b c h1 h2 => by
    simp only [decide_eq_true_eq] at h1 h2 ⊢
    exact List.le_trans h1 h2) (fun a b => by
    simp only [Bool.or_eq_true, decide_eq_true_eq]
    exact List.le_total a b) (l.map fun b => b.data.toList)
  unfold sortS
  rw [List.pairwise_map]
  refine h.imp fun {a b} h => ?_
  simp only [decide_eq_true_eq] at h
  by_cases hl : kl (⟨a.toArray⟩ : ByteArray) ⟨b.toArray⟩
  · exact .inr hl
  · refine .inl (kl_tri _ _ hl fun h2 => ?_)
    unfold kl at h2
    rw [toList_data, toList_data, less_lt] at h2
    exact List.not_le.mpr h2 h

theorem a8At_ok (code : List Int) (i n : Int) (h : code.length ≤ 1048576) : ∃ r, p_laws_a8At code i n = some r := by
  unfold p_laws_a8At
  by_cases hn : n ≤ 1
  · rw [if_pos hn]; exact ⟨_, rfl⟩
  · rw [if_neg hn, grd_pos (by omega)]
    obtain ⟨r, e, _⟩ := forK_ex (l := code) (f := fun (i6 : Nat) x9 (v7 : Int) (nx8 : Int → Option Int) => nx8 (Int.tmod (IntKind.i64.wrap ((IntKind.i64.wrap (v7 * 31)) + (IntKind.i64.wrap x9))) 1000003)) (k := fun (v7 : Int) => grd (n ≠ 0) <| some (Int.tmod v7 n)) (Q := fun _ => True)
      (fun _ _ => True) (fun i hi s _ nx hnx => hnx _ trivial) (fun s _ => by rw [grd_pos (by omega)]; exact ⟨_, rfl, trivial⟩) (IntKind.i64.wrap ((IntKind.i64.wrap (i * 7)) + 3)) trivial
    exact ⟨r, e⟩
theorem u8_in (n : Int) : 0 ≤ IntKind.u8.wrap n ∧ IntKind.u8.wrap n ≤ 255 := by unfold IntKind.wrap; simp [IntKind.signed, IntKind.bits]; omega
theorem mix_ok {code : List Int} (i : Int) (h : ∀ x ∈ code, 0 ≤ x ∧ x ≤ 255) (hl : code.length ≤ 1000000) : ∃ r, p_laws_a8Mix code i = some r ∧ (∀ x ∈ r, 0 ≤ x ∧ x ≤ 255) ∧ r.length = code.length + 2 := by
  unfold p_laws_a8Mix
  obtain ⟨y, e⟩ := a8At_ok code i 256 (by omega)
  rw [e, callK_some, grd_pos (appOk_of _ _ (by omega))]
  refine ⟨_, rfl, fun x hx => ?_, by simp⟩
  simp only [List.cons_append, List.nil_append, List.mem_cons] at hx
  rcases hx with rfl | rfl | hx
  · exact u8_in _
  · exact u8_in _
  · exact h x hx


theorem among_ok {b : Int} {s : Sl00Src} (l : List Int) (hl : 0 < l.length) (hb : 0 ≤ b) (h : SrcOk (b + 2) s) : ∃ r s', p_spec_l00Src_among l s = some (r, s') ∧ r ∈ l ∧ SrcOk b s' := by
  obtain ⟨r, s1, e1, ⟨b1, b2, b3⟩, o1⟩ := pick_ok (l.length : Int) hb h
  unfold p_spec_l00Src_among
  have hr : r < (l.length : Int) := by
    rcases Nat.lt_or_ge 1 l.length with h | h
    · exact b2 (by omega)
    · have := b3 (by omega); omega
  rw [e1, callK_some, getK_in b1 hr]
  exact ⟨_, _, rfl, List.getElem_mem _, o1⟩

/-! ### What the functions on records come to -/
theorem ifs_pos {R : Type} {a b : ByteArray} (h : a = b) (x y : Option R) : (if (a.toList == b.toList) = true then x else y) = x := by rw [if_pos]; rw [str_eq]; exact decide_eq_true h
theorem ifs_neg {R : Type} {a b : ByteArray} (h : a ≠ b) (x y : Option R) : (if (a.toList == b.toList) = true then x else y) = y := by rw [if_neg]; rw [str_eq]; simpa using h
theorem pl_sLess (a b : Record) : p_spec_l17Less a b = some (rl a b) := by
  unfold p_spec_l17Less
  by_cases k : a.Key = b.Key
  · rw [ifs_pos k]
    by_cases s : a.Seq = b.Seq
    · rw [if_neg (by simpa using s)]
      by_cases d : a.Kind = b.Kind
      · rw [if_neg (by simpa using d)]
        by_cases v : a.Value = b.Value
        · rw [ifs_pos v]
          congr 1
          exact rl_of (by rw [kl_b]; simp [RL, Lx, k, s, d, v, kl_irr])
        · rw [ifs_neg v]
          congr 1
          exact rl_of (by rw [kl_b]; simp [RL, Lx, k, s, d, v, kl_irr])
      · rw [if_pos d]
        congr 1
        exact rl_of (by simp [RL, Lx, k, s, d, kl_irr])
    · rw [if_pos s]
      congr 1
      exact rl_of (by simp [RL, Lx, k, s, kl_irr])
  · rw [ifs_neg k]
    congr 1
    exact rl_of (by rw [kl_b]; simp [RL, Lx, k])
def cmpN (a b : Int) : Int := if a < b then -1 else if a > b then 1 else 0
theorem pl_cmp (a b : Int) : p_cmp_Compare a b = some (cmpN a b) := by
  unfold p_cmp_Compare p_cmp_isNaN cmpN
  simp only [callK_some, bne_self_eq_false, Bool.false_eq_true, if_false]
  repeat' split
  all_goals rfl
theorem pl_or5 (a b c d e : Int) : p_cmp_Or ([a, b, c, d, e] : List Int) = some (if a ≠ 0 then a else if b ≠ 0 then b else if c ≠ 0 then c else if d ≠ 0 then d else e) := by
  unfold p_cmp_Or forK
  rw [grd_pos (by simp)]
  simp only [forGo_cons, forGo_nil]
  repeat' split
  all_goals simp_all
theorem pl_iLess (a b : Record) : p_impl_LessRecord a b = some (rl a b) := by
  unfold p_impl_LessRecord p_impl_compareRecords
  rw [pl_cmp, callK_some, pl_cmp, callK_some, pl_or5, callK_some, callK_some]
  congr 1
  refine rl_of ?_
  rw [decide_eq_true_iff]
  have e1 := cmpB_eq (a := a.Key) (b := b.Key)
  have l1 := cmpB_lt (a := a.Key) (b := b.Key)
  have e4 := cmpB_eq (a := a.Value) (b := b.Value)
  have l4 := cmpB_lt (a := a.Value) (b := b.Value)
  have l5 := cmpB_lt (a := a.End) (b := b.End)
  generalize cmpB a.Key b.Key = x1 at *
  generalize cmpB a.Value b.Value = x4 at *
  generalize cmpB a.End b.End = x5 at *
  simp only [RL, Lx]
  rw [← l1, ← l4, ← l5, ← e1, ← e4]
  unfold cmpN
  by_cases k : x1 = 0
  · subst k
    rw [if_neg (by simp)]
    rcases Int.lt_trichotomy b.Seq a.Seq with s | s | s
    · simp [s]
    · simp only [s, Int.lt_irrefl, gt_iff_lt, if_false, ne_eq, not_true_eq_false, false_or, true_and]
      rcases Int.lt_trichotomy a.Kind b.Kind with d | d | d
      · simp [d]
      · simp only [d, Int.lt_irrefl, if_false, not_true_eq_false, false_or, true_and]
        by_cases v : x4 = 0
        · subst v; simp
        · simp [v]
      · have d2 : ¬ a.Kind < b.Kind := by omega
        have d3 : ¬ a.Kind = b.Kind := by omega
        simp [d, d2, d3]
    · have s2 : ¬ b.Seq < a.Seq := by omega
      have s3 : ¬ a.Seq = b.Seq := by omega
      simp [s, s2, s3]
  · rw [if_pos k]
    simp [k]
theorem pl_iKey (k : ByteArray) : p_impl_ValidKey k = some (okKey k) := rfl
theorem less_not (a b : ByteArray) : (!(Op.bytesLess a.toList b.toList || a.toList == b.toList)) = Op.bytesLess b.toList a.toList := by
  rw [str_eq, Bool.eq_iff_iff]
  simp only [Bool.not_eq_true', Bool.or_eq_false_iff, decide_eq_false_iff_not]
  constructor
  · rintro ⟨h1, h2⟩
    exact Classical.byContradiction fun h => h2 (kl_tri a b (by unfold kl; rw [h1]; simp) h)
  · intro h
    have h : kl b a := h
    refine ⟨?_, (kl_ne h).symm⟩
    have := kl_as h
    unfold kl at this
    simpa using this
theorem pl_iRec (r : Record) : p_impl_ValidRecord r = some (okRec r) := by
  unfold p_impl_ValidRecord okRec
  simp only [less_not]
  rw [pl_iKey, callK_some]
  cases okKey r.Key
  · rfl
  cases inR r.Seq 1 1000000
  · rfl
  simp only [if_true, Bool.true_and]
  by_cases k1 : r.Kind = 1
  · rw [if_pos k1, if_pos k1]
    by_cases hv : (r.Value.size : Int) ≤ 16
    · rw [if_pos hv]; simp [hv, isE]
    · rw [if_neg hv]; simp [hv]
  · rw [if_neg k1, if_neg k1]
    by_cases k2 : r.Kind = 2
    · rw [if_pos k2, if_pos k2]
      unfold isE
      cases r.Value.toList == (⟨#[]⟩ : ByteArray).toList <;> rfl
    · rw [if_neg k2, if_neg k2]
      by_cases k3 : r.Kind = 3
      · rw [if_pos k3, if_pos k3, pl_iKey, callK_some]
        unfold isE
        cases r.Value.toList == (⟨#[]⟩ : ByteArray).toList <;> cases okKey r.End <;> rfl
      · rw [if_neg k3, if_neg k3]
theorem mget_put (m z : Int) : ∀ (l : List (Int × Bool)) (n : Int) (x d : Bool), mgetT (mputT l n x) m d = if m = n then x else mgetT l m d
  | [], n, x, d => by
    simp only [mputT, mgetT]
    by_cases h : n = m
    · rw [if_pos h, if_pos h.symm]
    · rw [if_neg h, if_neg (Ne.symm h)]
  | (a, y) :: l, n, x, d => by
    simp only [mputT]
    by_cases h : a = n
    · subst h
      rw [if_pos rfl]
      simp only [mgetT]
      by_cases h2 : a = m
      · rw [if_pos h2, if_pos h2.symm]
      · rw [if_neg h2, if_neg (Ne.symm h2), if_neg h2]
    · rw [if_neg h]
      simp only [mgetT]
      by_cases h2 : a = m
      · rw [if_pos h2, if_pos h2, if_neg (fun e => h (h2.trans e))]
      · rw [if_neg h2, if_neg h2, mget_put m z l n x d]
theorem run_lt {l : List Record} (h : Run l) {i j : Nat} (hij : i < j) (hj : j < l.length) : RL (l[i]'(by omega)) l[j] := List.pairwise_iff_getElem.mp h.srt i j (by omega) hj hij
theorem run_seq {l : List Record} (h : Run l) {i j : Nat} (hij : i < j) (hj : j < l.length) : (l[i]'(by omega)).Seq ≠ l[j].Seq := fun e => by
  have := h.inj _ (List.getElem_mem (show i < l.length by omega)) _ (List.getElem_mem hj) e
  have h2 := run_lt h hij hj
  rw [this] at h2
  exact RL_irr _ h2
theorem pl_iRun {l : List Record} (h : Run l) (hl : l.length ≤ 1000000) : p_impl_ValidRun l = some true := by
  unfold p_impl_ValidRun
  rw [grd_pos (by omega)]
  refine forK_rule (fun i v => ∀ n, mgetT v n false = true → ∃ j, ∃ (hj : j < l.length), j < i ∧ l[j].Seq = n) (fun i hi v hv nx hnx => ?_) (fun v hv => rfl) _ (fun n hn => by simp [mgetT] at hn)
  rw [pl_iRec, callK_some, h.ok _ (List.getElem_mem hi), if_pos rfl]
  have hno : mgetT v l[i].Seq false = false := by
    cases hm : mgetT v l[i].Seq false
    · rfl
    · obtain ⟨j, hj, hji, e⟩ := hv _ hm
      exact absurd e (run_seq h hji hi)
  have hput : ∀ n, mgetT (mputT v l[i].Seq true) n false = true → ∃ j, ∃ (hj : j < l.length), j < i + 1 ∧ l[j].Seq = n := fun n hn => by
    rw [mget_put n 0] at hn
    by_cases e : n = l[i].Seq
    · exact ⟨i, hi, by omega, e.symm⟩
    · rw [if_neg e] at hn
      obtain ⟨j, hj, hji, e⟩ := hv n hn
      exact ⟨j, hj, by omega, e⟩
  rw [hno, if_neg (by decide)]
  by_cases h0 : (i : Int) > 0
  · have hw : IntKind.i64.wrap ((i : Int) - 1) = ((i - 1 : Nat) : Int) := by rw [wrap_sm _ (by omega) (by omega)]; omega
    rw [if_pos h0, hw, getK_lt (by omega), pl_iLess, callK_some, rl_iff.mpr (run_lt h (show i - 1 < i by omega) hi), if_pos rfl]
    exact hnx _ hput
  · rw [if_neg h0]
    exact hnx _ hput
theorem rec_eq (x r : Record) : ((x.Key.toList == r.Key.toList) && ((x.Seq == r.Seq) && ((x.Kind == r.Kind) && ((x.Value.toList == r.Value.toList) && ((x.End.toList == r.End.toList) && true))))) = @decide (x = r) (Classical.propDecidable _) := by
  rw [Bool.eq_iff_iff, @decide_eq_true_iff _ (Classical.propDecidable _)]
  simp only [str_eq, Bool.and_eq_true, beq_iff_eq, decide_eq_true_eq, and_true]
  constructor
  · rintro ⟨h1, h2, h3, h4, h5⟩
    cases x; cases r
    simp_all
  · rintro rfl; simp
theorem cut0 {α : Type} (l : List α) (n : Nat) : (l.drop (Int.toNat 0)).take (Int.toNat (n : Int) - Int.toNat 0) = l.take n := by simp
theorem cutE {α : Type} (l : List α) (n : Nat) : (l.drop (Int.toNat (n : Int))).take (Int.toNat (l.length : Int) - Int.toNat (n : Int)) = l.drop n := by
  rw [Int.toNat_natCast, Int.toNat_natCast]
  exact List.take_of_length_le (by rw [List.length_drop]; exact Nat.le_refl _)
theorem pl_into {l : List Record} (r : Record) (hl : l.length ≤ 1000000) : p_spec_l17Into l r = some (into l r) := by
  unfold p_spec_l17Into
  rw [grd_pos (by omega)]
  refine forK_rule (fun i _ => ∀ j, ∀ (hj : j < l.length), j < i → rl l[j] r = true) (fun i hi v hv nx hnx => ?_) (fun v hv => ?_) () (fun j hj h => by omega)
  · rw [pl_sLess, callK_some]
    cases hc : rl l[i] r
    · rw [if_neg (by decide), rec_eq, into_at hi (fun j hj => hv j (by omega) hj) hc]
      by_cases e : l[i] = r
      · rw [if_pos (by simpa using e), if_pos e]
      · rw [if_neg (by simpa using e), if_neg e, cut0, cutE, grd_pos (by omega), grd_pos (appOk_of _ _ (by rw [List.length_take]; omega)), grd_pos (appOk_of _ _ (by rw [List.length_take]; omega)), grd_pos (by omega),
          grd_pos (appOk_of _ _ (by simp only [List.length_append, List.length_take, List.length_drop, List.length_cons, List.length_nil]; omega))]
        simp
    · rw [if_pos rfl]
      refine hnx () fun j hj h => ?_
      by_cases e : j = i
      · subst e; exact hc
      · exact hv j hj (by omega)
  · rw [cut0, cutE, grd_pos (by omega), grd_pos (appOk_of _ _ (by rw [List.length_take]; omega)), grd_pos (appOk_of _ _ (by rw [List.length_take]; omega)), grd_pos (by omega),
      grd_pos (appOk_of _ _ (by simp only [List.length_append, List.length_take, List.length_drop, List.length_cons, List.length_nil]; omega))]
    rw [into_end (fun x hx => by obtain ⟨j, hj, rfl⟩ := List.mem_iff_getElem.mp hx; exact hv j hj hj)]
    simp
theorem fold_into_le : ∀ (l acc : List Record), (l.foldl into acc).length ≤ acc.length + l.length
  | [], acc => by simp
  | y :: l, acc => by
    rw [List.foldl_cons]
    have h1 := fold_into_le l (into acc y)
    have h2 := into_len_le y acc
    rw [List.length_cons]; omega
/-- What may be seen of a run. -/
theorem text_ok {b : Int} {s : Sl00Src} (l : List ByteArray) (hl : 0 < l.length) (hb : 0 ≤ b) (h : SrcOk (b + 2) s) : ∃ r s', p_spec_l00Src_text l s = some (r, s') ∧ r ∈ l ∧ SrcOk b s' := by
  obtain ⟨r, s1, e1, ⟨b1, b2, b3⟩, o1⟩ := pick_ok (l.length : Int) hb h
  unfold p_spec_l00Src_text
  have hr : r < (l.length : Int) := by
    rcases Nat.lt_or_ge 1 l.length with h | h
    · exact b2 (by omega)
    · have := b3 (by omega); omega
  rw [e1, callK_some, getK_in b1 hr]
  exact ⟨_, _, rfl, List.getElem_mem _, o1⟩
theorem okRec_mk {k v e : ByteArray} {q kd : Int} (hk : okKey k = true) (hq : 1 ≤ q ∧ q ≤ 1000000) (h : (kd = 1 ∧ (v.size : Int) ≤ 16 ∧ e = ⟨#[]⟩) ∨ (kd = 2 ∧ v = ⟨#[]⟩ ∧ e = ⟨#[]⟩) ∨ (kd = 3 ∧ v = ⟨#[]⟩ ∧ okKey e = true ∧ kl k e)) : okRec ⟨k, q, kd, v, e⟩ = true := by
  unfold okRec
  dsimp only
  rw [hk, inR_iff.mpr hq]
  rcases h with ⟨rfl, h1, rfl⟩ | ⟨rfl, rfl, rfl⟩ | ⟨rfl, rfl, h1, h2⟩
  · rw [if_pos rfl, isE_iff.mpr rfl]; simp [h1]
  · rw [if_neg (by decide), if_pos rfl, isE_iff.mpr rfl]; rfl
  · rw [if_neg (by decide), if_neg (by decide), if_pos rfl, isE_iff.mpr rfl, h1, show Op.bytesLess k.toList e.toList = true from h2]; rfl
theorem draw_ok {b q : Int} {s : Sl00Src} (hb : 0 ≤ b) (hq : 1 ≤ q ∧ q ≤ 1000000) (h : SrcOk (b + 10) s) : ∃ r s', p_spec_l17Draw q s = some (r, s') ∧ r.Seq = q ∧ okRec r = true ∧ SrcOk b s' := by
  unfold p_spec_l17Draw p_spec_l17DrawKey
  obtain ⟨k, s1, e1, m1, o1⟩ := text_ok (b := b + 8) (s := s) ([(⟨#[97]⟩ : ByteArray), (⟨#[98]⟩ : ByteArray), (⟨#[99]⟩ : ByteArray), (⟨#[100]⟩ : ByteArray), (⟨#[101]⟩ : ByteArray), (⟨#[97, 98]⟩ : ByteArray), (⟨#[98, 49]⟩ : ByteArray), (⟨#[107, 101, 121, 56, 98, 121, 116, 101]⟩ : ByteArray), (⟨#[0]⟩ : ByteArray), (⟨#[255, 255]⟩ : ByteArray)] : List ByteArray) (by simp) (by omega) (h.le (by omega))
  rw [e1, callK_some, callK_some]
  have hk : okKey k = true := by
    simp only [List.mem_cons, List.not_mem_nil, or_false] at m1
    rcases m1 with rfl | rfl | rfl | rfl | rfl | rfl | rfl | rfl | rfl | rfl <;> rfl
  obtain ⟨y2, s2, e2, m2, o2⟩ := among_ok (b := b + 6) (s := s1) ([1, 1, 1, 2, 3] : List Int) (by simp) (by omega) (o1.le (by omega))
  dsimp only
  rw [e2, callK_some]
  dsimp only
  by_cases k1 : y2 = 1
  · rw [if_pos k1]
    obtain ⟨v, s3, e3, m3, o3⟩ := text_ok (b := b + 4) (s := s2) ([(⟨#[]⟩ : ByteArray), (⟨#[49]⟩ : ByteArray), (⟨#[116, 119, 111]⟩ : ByteArray), (⟨#[115, 105, 120, 116, 101, 101, 110, 32, 98, 121, 116, 101, 115, 32, 111, 107]⟩ : ByteArray), (⟨#[0]⟩ : ByteArray)] : List ByteArray) (by simp) (by omega) (o2.le (by omega))
    have hv : (v.size : Int) ≤ 16 := by
      simp only [List.mem_cons, List.not_mem_nil, or_false] at m3
      rcases m3 with rfl | rfl | rfl | rfl | rfl <;> decide
    rw [e3, callK_some]
    exact ⟨_, _, rfl, rfl, okRec_mk hk hq (.inl ⟨k1, hv, rfl⟩), o3.le (by omega)⟩
  · rw [if_neg k1]
    by_cases k3 : y2 = 3
    · rw [if_pos k3]
      obtain ⟨x, s3, e3, m3, o3⟩ := text_ok (b := b + 4) (s := s2) ([(⟨#[97]⟩ : ByteArray), (⟨#[98]⟩ : ByteArray), (⟨#[97, 98]⟩ : ByteArray), (⟨#[99]⟩ : ByteArray)] : List ByteArray) (by simp) (by omega) (o2.le (by omega))
      obtain ⟨z, s4, e4, m4, o4⟩ := text_ok (b := b + 2) (s := s3) ([(⟨#[100]⟩ : ByteArray), (⟨#[101]⟩ : ByteArray), (⟨#[98, 49, 0]⟩ : ByteArray), (⟨#[255]⟩ : ByteArray)] : List ByteArray) (by simp) (by omega) (o3.le (by omega))
      rw [e3, callK_some]
      dsimp only
      rw [e4, callK_some]
      dsimp only
      simp only [List.mem_cons, List.not_mem_nil, or_false] at m3 m4
      have hx : okKey x = true := by rcases m3 with rfl | rfl | rfl | rfl <;> rfl
      by_cases hl : Op.bytesLess x.toList z.toList = true
      · rw [if_pos hl]
        refine ⟨_, _, rfl, rfl, okRec_mk hx hq (.inr (.inr ⟨k3, rfl, ?_, hl⟩)), o4.le (by omega)⟩
        rcases m4 with rfl | rfl | rfl | rfl <;> rfl
      · rw [if_neg hl]
        refine ⟨_, _, rfl, rfl, okRec_mk hx hq (.inr (.inr ⟨k3, rfl, rfl, ?_⟩)), o4.le (by omega)⟩
        unfold kl
        rw [toList_data, toList_data]
        rcases m3 with rfl | rfl | rfl | rfl <;> decide
    · rw [if_neg k3]
      have k2 : y2 = 2 := by
        simp only [List.mem_cons, List.not_mem_nil, or_false] at m2
        omega
      exact ⟨_, _, rfl, rfl, okRec_mk hk hq (.inr (.inl ⟨k2, rfl, rfl⟩)), o2.le (by omega)⟩

/-! ### Reverse, compact -/
theorem rev_get {α : Type} (l : List α) (j : Nat) (h : j < l.length) : l.reverse[j]? = l[l.length - 1 - j]? := by
  rw [List.getElem?_reverse h]
theorem pl_rev (l : List Int) (hl : l.length ≤ 10000000) : p_slices_Reverse l = some l.reverse := by
  unfold p_slices_Reverse
  rw [wrap_sm _ (by omega) (by omega)]
  refine iterK_rule (fun d (s : Int × Int × List Int) => ∃ i : Nat, s.1 = i ∧ s.2.1 = (l.length : Int) - 1 - i ∧ d = l.length - i ∧ 2 * i ≤ l.length + 1 ∧ s.2.2.length = l.length ∧ ∀ j, j < l.length → s.2.2[j]? = if j < i ∨ l.length - i ≤ j then l[l.length - 1 - j]? else l[j]?) ?_ l.length _ (by unfold NN; omega)
    ⟨0, rfl, by dsimp only; omega, rfl, by omega, rfl, fun j hj => by rw [if_neg (by omega)]⟩
  rintro d ⟨v1, v2, v3⟩ ⟨i, g1, g2, g3, g4, g5, g6⟩ nx hnx
  dsimp only at g1 g2 g5 g6 hnx ⊢
  subst g1 g2
  by_cases h : (i : Int) < (l.length : Int) - 1 - i
  · have hi : i < l.length := by omega
    have hk : l.length - 1 - i < l.length := by omega
    have e2 : (l.length : Int) - 1 - i = ((l.length - 1 - i : Nat) : Int) := by omega
    have hne : i ≠ l.length - 1 - i := by omega
    have a1 := g6 i hi
    have a2 := g6 (l.length - 1 - i) hk
    rw [if_neg (by omega), List.getElem?_eq_getElem (by omega), List.getElem?_eq_getElem hi] at a1
    rw [if_neg (by omega), List.getElem?_eq_getElem (by omega), List.getElem?_eq_getElem hk] at a2
    have b1 := Option.some.inj a1
    have b2 := Option.some.inj a2
    rw [if_pos h, e2, getK_lt (by omega), getK_lt (by omega), Int.toNat_natCast, Int.toNat_natCast, getK_lt (by simp; omega), wrap_sm _ (by omega) (by omega), wrap_sm _ (by omega) (by omega)]
    refine hnx (l.length - (i + 1)) _ (by omega) ⟨i + 1, by dsimp only; omega, by dsimp only; omega, rfl, by omega, by simpa using g5, fun j hj => ?_⟩
    dsimp only
    rw [b1, b2]
    by_cases j1 : l.length - 1 - i = j
    · subst j1
      rw [List.getElem?_set_self (by simp; omega), if_pos (by omega), show l.length - 1 - (l.length - 1 - i) = i by omega, List.getElem?_eq_getElem hi]
    · rw [List.getElem?_set_ne j1]
      by_cases j2 : i = j
      · subst j2
        rw [List.getElem?_set_self (by omega), if_pos (by omega), List.getElem?_eq_getElem hk]
      · rw [List.getElem?_set_ne j2, g6 j hj]
        by_cases c : j < i ∨ l.length - i ≤ j
        · rw [if_pos c, if_pos (by omega)]
        · rw [if_neg c, if_neg (by omega)]
  · rw [if_neg h]
    congr 1
    refine List.ext_getElem? fun j => ?_
    by_cases hj : j < l.length
    · rw [g6 j hj, rev_get l j hj]
      by_cases c : j < i ∨ l.length - i ≤ j
      · rw [if_pos c]
      · rw [if_neg c, show l.length - 1 - j = j by omega]
    · rw [List.getElem?_eq_none (by omega), List.getElem?_eq_none (by simp; omega)]
theorem pl_cptS (l : List ByteArray) (h : l.length ≤ 1000000) : p_slices_Compact l = some (cpt l) := by
  have e0 : ∀ m : List ByteArray, p_slices_Compact m = cmpG (⟨#[]⟩ : ByteArray) (fun (x y : ByteArray) => x.toList == y.toList) m := fun m => by
    unfold p_slices_Compact cmpG
    rfl
  exact (e0 _).trans (cmpG_ok _ (fun x y => by rw [str_eq, decide_eq_true_eq]) _ h)
theorem pl_cptI (l : List Int) (h : l.length ≤ 1000000) : p_slices_Compact' l = some (cpt l) := by
  have e0 : ∀ m : List Int, p_slices_Compact' m = cmpG (0 : Int) (fun (x y : Int) => x == y) m := fun m => by
    unfold p_slices_Compact' cmpG
    simp only [beq_iff_eq, ite_not]
  exact (e0 _).trans (cmpG_ok _ (fun x y => by simp) _ h)
/-! ### Fragments: what split makes -/
noncomputable def kle (a b : ByteArray) : Bool := @decide (¬ kl b a) (Classical.propDecidable _)
theorem kle_iff {a b : ByteArray} : kle a b = true ↔ ¬ kl b a := by unfold kle; exact @decide_eq_true_iff _ (Classical.propDecidable _)
theorem kle_b (a b : ByteArray) : ((Op.bytesLess a.toList b.toList || a.toList == b.toList) = true) = (kle a b = true) := by
  rw [kle_iff, str_eq, Bool.or_eq_true, decide_eq_true_eq]
  refine propext ⟨fun h => ?_, fun h => ?_⟩
  · rcases h with h | rfl
    · exact kl_as h
    · exact kl_irr _
  · by_cases h2 : kl a b
    · exact .inl h2
    · exact .inr (kl_tri _ _ h2 h)
def bds (L : List Fragment) : List ByteArray := L.flatMap fun f => [f.Low, f.End]
noncomputable def sqs (L : List Fragment) (a b : ByteArray) : List Int := (L.filter fun f => kle f.Low a && kle b f.End).flatMap (·.Seqs)
noncomputable def sq (L : List Fragment) (a b : ByteArray) : List Int := (cpt (sortI (sqs L a b))).reverse
noncomputable def frAt (L : List Fragment) (B : List ByteArray) (i : Nat) : List Fragment := let a := B.getD (i - 1) ⟨#[]⟩; let b := B.getD i ⟨#[]⟩; if sq L a b = [] then [] else [⟨a, b, sq L a b⟩]
noncomputable def frs (L : List Fragment) (B : List ByteArray) : Nat → List Fragment
  | 0 => []
  | 1 => []
  | n + 2 => frs L B (n + 1) ++ frAt L B (n + 1)
noncomputable def bd (L : List Fragment) : List ByteArray := cpt (sortS (bds L))
noncomputable def spl (L : List Fragment) : List Fragment := frs L (bd L) (bd L).length
theorem bds_len (L : List Fragment) : (bds L).length = 2 * L.length := by
  unfold bds
  induction L with
  | nil => rfl
  | cons f L ih => rw [List.flatMap_cons, List.length_append, ih]; simp; omega
theorem sqs_len (L : List Fragment) (a b : ByteArray) (h : ∀ f ∈ L, f.Seqs.length ≤ 1000) : (sqs L a b).length ≤ 1000 * L.length := by
  unfold sqs
  induction L with
  | nil => simp
  | cons f L ih =>
    have h1 := ih fun x hx => h x (by simp [hx])
    have h2 := h f (by simp)
    rw [List.filter_cons]
    split
    · rw [List.flatMap_cons, List.length_append, List.length_cons]; omega
    · rw [List.length_cons]; omega
theorem pl_split (L : List Fragment) (hl : L.length ≤ 100) (hs : ∀ f ∈ L, f.Seqs.length ≤ 1000) : p_impl_split L = some (spl L) := by
  unfold p_impl_split
  rw [grd_pos (by omega)]
  refine forK_rule (fun i v => v = bds (L.take i)) (fun i hi v hv nx hnx => ?_) (fun v hv => ?_) _ rfl
  · subst hv
    have := bds_len (L.take i)
    rw [List.length_take] at this
    rw [grd_pos (appOk_of _ _ (by omega))]
    refine hnx _ ?_
    unfold bds
    rw [List.take_succ_eq_append_getElem hi, List.flatMap_append]
    simp only [List.flatMap_cons, List.flatMap_nil, List.append_nil]
  · rw [List.take_length] at hv
    subst hv
    have hb := bds_len L
    have hsl : (sortS (bds L)).length = (bds L).length := (sortS_perm _).length_eq
    have hbl : (bd L).length ≤ 200 := by
      have := cpt_len (sortS (bds L))
      unfold bd
      omega
    rw [grd_pos (by omega), pl_cptS _ (by omega), callK_some]
    show iterK _ NN (1, []) = some (spl L)
    unfold spl
    have hB : cpt (sortS (bds L)) = bd L := rfl
    rw [hB]
    generalize bd L = B at hbl
    refine iterK_rule (fun d (s : Int × List Fragment) => ∃ i : Nat, s.1 = (i : Int) ∧ 1 ≤ i ∧ (i ≤ B.length ∨ i = 1) ∧ d = B.length - i ∧ s.2 = frs L B i ∧ s.2.length ≤ i) ?_ (B.length - 1) _ (by unfold NN; omega) ⟨1, rfl, by omega, .inr rfl, rfl, rfl, by simp⟩
    rintro d ⟨v10, v11⟩ ⟨i, g1, g2, g3, g4, g5, g6⟩ nx hnx
    dsimp only at g1 g5 g6 hnx ⊢
    subst g1 g5
    by_cases h : i < B.length
    · have hf : frs L B (i + 1) = frs L B i ++ frAt L B i := by
        obtain ⟨k, rfl⟩ : ∃ k, i = k + 1 := ⟨i - 1, by omega⟩
        rfl
      have ha : B.getD (i - 1) ⟨#[]⟩ = B[i - 1]'(by omega) := by rw [List.getD_eq_getElem?_getD, List.getElem?_eq_getElem (by omega)]; rfl
      have hb2 : B.getD i ⟨#[]⟩ = B[i]'h := by rw [List.getD_eq_getElem?_getD, List.getElem?_eq_getElem h]; rfl
      rw [if_pos (by omega), wrap_sm _ (by omega) (by omega), show (i : Int) - 1 = ((i - 1 : Nat) : Int) by omega, getK_lt (by omega), getK_lt h, grd_pos (by omega)]
      have hq := sqs_len L (B[i - 1]'(by omega)) B[i] hs
      refine forK_rule (fun j v => v = sqs (L.take j) (B[i - 1]'(by omega)) B[i]) (fun j hj v hv nx2 hnx2 => ?_) (fun v hv => ?_) _ (by simp [sqs])
      · subst hv
        have hq2 := sqs_len (L.take j) (B[i - 1]'(by omega)) B[i] (fun f hf => hs f (List.mem_of_mem_take hf))
        have hq3 := hs _ (List.getElem_mem hj)
        rw [List.length_take] at hq2
        have hst : sqs (L.take (j + 1)) (B[i - 1]'(by omega)) B[i] = sqs (L.take j) (B[i - 1]'(by omega)) B[i] ++ (if (kle L[j].Low (B[i - 1]'(by omega)) && kle B[i] L[j].End) = true then L[j].Seqs else []) := by
          unfold sqs
          rw [List.take_succ_eq_append_getElem hj, List.filter_append, List.flatMap_append]
          congr 1
          by_cases c : (kle L[j].Low (B[i - 1]'(by omega)) && kle B[i] L[j].End) = true
          · rw [if_pos c, List.filter_cons_of_pos (by exact c)]; simp
          · rw [if_neg c, List.filter_cons_of_neg (by exact c)]; simp
        simp only [kle_b]
        by_cases c1 : kle L[j].Low (B[i - 1]'(by omega)) = true
        · rw [if_pos c1]
          by_cases c2 : kle B[i] L[j].End = true
          · rw [if_pos c2, grd_pos (appOk_of _ _ (by omega))]
            exact hnx2 _ (by rw [hst, if_pos (by rw [c1, c2]; rfl)])
          · rw [if_neg c2]
            exact hnx2 _ (by rw [hst, if_neg (by rw [c1, Bool.true_and]; exact c2), List.append_nil])
        · rw [if_neg c1]
          exact hnx2 _ (by rw [hst, if_neg (by rw [Bool.and_eq_true]; exact fun h => c1 h.1), List.append_nil])
      · rw [List.take_length] at hv
        subst hv
        have hsi : (sortI (sqs L (B[i - 1]'(by omega)) B[i])).length = (sqs L (B[i - 1]'(by omega)) B[i]).length := (sortI_perm _).length_eq
        have hci := cpt_len (sortI (sqs L (B[i - 1]'(by omega)) B[i]))
        rw [grd_pos (by omega), pl_cptI _ (by omega), callK_some, pl_rev _ (by omega), callK_some]
        have hsq : (cpt (sortI (sqs L (B[i - 1]'(by omega)) B[i]))).reverse = sq L (B[i - 1]'(by omega)) B[i] := rfl
        rw [hsq, wrap_sm _ (by omega) (by omega)]
        have hfa : frAt L B i = if sq L (B[i - 1]'(by omega)) B[i] = [] then [] else [⟨B[i - 1]'(by omega), B[i], sq L (B[i - 1]'(by omega)) B[i]⟩] := by
          unfold frAt
          dsimp only
          rw [ha, hb2]
        by_cases c : sq L (B[i - 1]'(by omega)) B[i] = []
        · rw [if_neg (by rw [c]; simp)]
          rw [if_pos c] at hfa
          exact hnx (B.length - (i + 1)) _ (by omega) ⟨i + 1, by dsimp only; omega, by omega, .inl (by omega), rfl, by rw [hf, hfa, List.append_nil], by dsimp only; omega⟩
        · rw [if_pos (by have := List.length_pos_iff.mpr c; omega), grd_pos (appOk_of _ _ (by omega))]
          rw [if_neg c] at hfa
          exact hnx (B.length - (i + 1)) _ (by omega) ⟨i + 1, by dsimp only; omega, by omega, .inl (by omega), rfl, by rw [hf, hfa], by simp; omega⟩
    · rw [if_neg (by omega)]
      congr 1
      rcases g3 with g3 | g3
      · rw [show i = B.length by omega]
      · subst g3
        match hB2 : B.length with
        | 0 => rfl
        | 1 => rfl
        | n + 2 => omega
theorem sq_mem {L : List Fragment} {a b : ByteArray} {q : Int} : q ∈ sq L a b ↔ ∃ f ∈ L, ¬ kl a f.Low ∧ ¬ kl f.End b ∧ q ∈ f.Seqs := by
  unfold sq
  rw [List.mem_reverse, cpt_mem, (sortI_perm _).mem_iff]
  unfold sqs
  simp only [List.mem_flatMap, List.mem_filter, Bool.and_eq_true, kle_iff]
  constructor
  · rintro ⟨f, ⟨h1, h2, h3⟩, h4⟩; exact ⟨f, h1, h2, h3, h4⟩
  · rintro ⟨f, h1, h2, h3, h4⟩; exact ⟨f, ⟨h1, h2, h3⟩, h4⟩
theorem sq_desc (L : List Fragment) (a b : ByteArray) : (sq L a b).Pairwise (· > ·) := by
  unfold sq
  rw [List.pairwise_reverse]
  have h := cpt_sorted (r := fun x y : Int => x < y) (fun a b c h1 h2 => Int.lt_trans h1 h2) (l := sortI (sqs L a b)) ((sortI_sorted _).imp fun h => by omega)
  exact h.imp fun h => h
theorem bd_sorted (L : List Fragment) : (bd L).Pairwise kl := cpt_sorted (r := kl) kl_tr (sortS_sorted (bds L))
theorem bd_mem {L : List Fragment} {x : ByteArray} : x ∈ bd L ↔ ∃ f ∈ L, x = f.Low ∨ x = f.End := by
  unfold bd
  rw [cpt_mem, (sortS_perm _).mem_iff]
  unfold bds
  simp only [List.mem_flatMap, List.mem_cons, List.not_mem_nil, or_false]
theorem frs_mem {L : List Fragment} {B : List ByteArray} {f : Fragment} : ∀ {n : Nat}, f ∈ frs L B n ↔ ∃ i, 1 ≤ i ∧ i < n ∧ f ∈ frAt L B i
  | 0 => by simp [frs]
  | 1 => by
    simp only [frs, List.not_mem_nil, false_iff]
    rintro ⟨i, h1, h2, _⟩; omega
  | n + 2 => by
    rw [frs, List.mem_append, frs_mem (n := n + 1)]
    constructor
    · rintro (⟨i, h1, h2, h3⟩ | h)
      · exact ⟨i, h1, by omega, h3⟩
      · exact ⟨n + 1, by omega, by omega, h⟩
    · rintro ⟨i, h1, h2, h3⟩
      by_cases e : i = n + 1
      · subst e; exact .inr h3
      · exact .inl ⟨i, h1, by omega, h3⟩
theorem frAt_eq (L : List Fragment) (B : List ByteArray) (i : Nat) (h1 : 1 ≤ i) (h2 : i < B.length) : frAt L B i = if sq L (B[i - 1]'(by omega)) B[i] = [] then [] else [⟨B[i - 1]'(by omega), B[i], sq L (B[i - 1]'(by omega)) B[i]⟩] := by
  have ha : B.getD (i - 1) ⟨#[]⟩ = B[i - 1]'(by omega) := by rw [List.getD_eq_getElem?_getD, List.getElem?_eq_getElem (by omega)]; rfl
  have hb2 : B.getD i ⟨#[]⟩ = B[i]'h2 := by rw [List.getD_eq_getElem?_getD, List.getElem?_eq_getElem h2]; rfl
  unfold frAt
  dsimp only
  rw [ha, hb2]
theorem spl_mem {L : List Fragment} {g : Fragment} : g ∈ spl L ↔ ∃ (i : Nat) (h1 : 1 ≤ i) (h2 : i < (bd L).length), sq L ((bd L)[i - 1]'(by omega)) (bd L)[i] ≠ [] ∧ g = ⟨(bd L)[i - 1]'(by omega), (bd L)[i], sq L ((bd L)[i - 1]'(by omega)) (bd L)[i]⟩ := by
  unfold spl
  rw [frs_mem]
  constructor
  · rintro ⟨i, h1, h2, h3⟩
    rw [frAt_eq L _ i h1 h2] at h3
    by_cases c : sq L ((bd L)[i - 1]'(by omega)) (bd L)[i] = []
    · rw [if_pos c] at h3; simp at h3
    · rw [if_neg c, List.mem_singleton] at h3
      exact ⟨i, h1, h2, c, h3⟩
  · rintro ⟨i, h1, h2, h3, h4⟩
    refine ⟨i, h1, h2, ?_⟩
    rw [frAt_eq L _ i h1 h2, if_neg h3, List.mem_singleton]
    exact h4
/-- A number that covers a key. -/
def Ind (L : List Fragment) (k : ByteArray) (q : Int) : Prop := ∃ f ∈ L, ¬ kl k f.Low ∧ kl k f.End ∧ q ∈ f.Seqs
theorem kl_le_tr {a b c : ByteArray} (h1 : ¬ kl b a) (h2 : ¬ kl c b) : ¬ kl c a := fun h => by
  by_cases e : kl a b
  · exact h2 (kl_tr _ _ _ h e)
  · have := kl_tri _ _ e h1
    subst this
    exact h2 h
theorem kl_lt_le {a b c : ByteArray} (h1 : kl a b) (h2 : ¬ kl c b) : kl a c := by
  by_cases e : kl b c
  · exact kl_tr _ _ _ h1 e
  · have := kl_tri _ _ e h2
    subst this
    exact h1
theorem least {P : Nat → Prop} (h : ∃ n, P n) : ∃ n, P n ∧ ∀ m, m < n → ¬ P m := by
  obtain ⟨n, hn⟩ := h
  induction n using Nat.strongRecOn with
  | _ n ih =>
    by_cases c : ∃ m, m < n ∧ P m
    · obtain ⟨m, h1, h2⟩ := c
      exact ih m h1 h2
    · exact ⟨n, hn, fun m hm hp => c ⟨m, hm, hp⟩⟩
/-- The place of a key among bounds. -/
theorem place {B : List ByteArray} (hs : B.Pairwise kl) (k x y : ByteArray) (hx : x ∈ B) (hy : y ∈ B) (h1 : ¬ kl k x) (h2 : kl k y) : ∃ (i : Nat) (g1 : 1 ≤ i) (g2 : i < B.length), ¬ kl k (B[i - 1]'(by omega)) ∧ kl k B[i] ∧ ¬ kl (B[i - 1]'(by omega)) x ∧ ¬ kl y B[i] := by
  obtain ⟨jx, hjx, rfl⟩ := List.mem_iff_getElem.mp hx
  obtain ⟨jy, hjy, rfl⟩ := List.mem_iff_getElem.mp hy
  have mono : ∀ i j (hi : i < B.length) (hj : j < B.length), i < j → kl B[i] B[j] := fun i j hi hj h => List.pairwise_iff_getElem.mp hs i j hi hj h
  obtain ⟨i, ⟨hi, hik⟩, hmin⟩ := least (P := fun i => ∃ h : i < B.length, kl k B[i]) ⟨jy, hjy, h2⟩
  have hjx2 : jx < i := by
    rcases Nat.lt_or_ge jx i with h | h
    · exact h
    · rcases Nat.eq_or_lt_of_le h with e | h
      · subst e; exact absurd hik h1
      · exact absurd (kl_tr _ _ _ hik (mono i jx hi hjx h)) h1
  have hjy2 : i ≤ jy := by
    rcases Nat.lt_or_ge jy i with h | h
    · exact absurd ⟨hjy, h2⟩ (hmin jy h)
    · exact h
  refine ⟨i, by omega, hi, fun h => hmin (i - 1) (by omega) ⟨by omega, h⟩, hik, fun h => ?_, fun h => ?_⟩
  · rcases Nat.eq_or_lt_of_le (show jx ≤ i - 1 by omega) with e | h3
    · subst e; exact kl_irr _ h
    · exact kl_as h (mono jx (i - 1) hjx (by omega) h3)
  · rcases Nat.eq_or_lt_of_le hjy2 with e | h3
    · subst e; exact kl_irr _ h
    · exact kl_as h (mono i jy hi hjy h3)
/-- Split keeps what covers. -/
theorem ind_spl (L : List Fragment) (k : ByteArray) (q : Int) : Ind (spl L) k q ↔ Ind L k q := by
  constructor
  · rintro ⟨g, hg, h1, h2, h3⟩
    obtain ⟨i, i1, i2, _, rfl⟩ := spl_mem.mp hg
    dsimp only at h1 h2 h3
    obtain ⟨f, f1, f2, f3, f4⟩ := sq_mem.mp h3
    exact ⟨f, f1, kl_le_tr f2 h1, kl_lt_le h2 f3, f4⟩
  · rintro ⟨f, h1, h2, h3, h4⟩
    obtain ⟨i, i1, i2, p1, p2, p3, p4⟩ := place (bd_sorted L) k f.Low f.End (bd_mem.mpr ⟨f, h1, .inl rfl⟩) (bd_mem.mpr ⟨f, h1, .inr rfl⟩) h2 h3
    have hq : q ∈ sq L ((bd L)[i - 1]'(by omega)) (bd L)[i] := sq_mem.mpr ⟨f, h1, p3, p4, h4⟩
    exact ⟨_, spl_mem.mpr ⟨i, i1, i2, List.ne_nil_of_mem hq, rfl⟩, p1, p2, hq⟩
/-! ### Valid fragments, what they cover -/
structure FV (L : List Fragment) : Prop where
  ok : ∀ f ∈ L, okKey f.Low = true ∧ okKey f.End = true ∧ kl f.Low f.End ∧ (1 ≤ f.Seqs.length ∧ f.Seqs.length ≤ 60) ∧ f.Seqs.Pairwise (· > ·) ∧ ∀ q ∈ f.Seqs, 1 ≤ q ∧ q ≤ 1000000
  srt : L.Pairwise fun f g => ¬ kl g.Low f.End
  len : L.length ≤ 120
/-- The greatest number up to s that covers a key, or none. -/
structure Cov (L : List Fragment) (k : ByteArray) (s m : Int) : Prop where
  has : m = 0 ∨ (Ind L k m ∧ m ≤ s)
  top : ∀ q, Ind L k q → q ≤ s → q ≤ m
theorem pl_atMost (l : List Int) (s : Int) (hl : l.length ≤ 1000) (hd : l.Pairwise (· > ·)) : ∃ m, p_impl_atMost l s = some m ∧ (m = 0 ∨ (m ∈ l ∧ m ≤ s)) ∧ ((∀ q ∈ l, 1 ≤ q) → ∀ q ∈ l, q ≤ s → q ≤ m) := by
  unfold p_impl_atMost
  rw [grd_pos (by omega)]
  refine forK_ex (fun i _ => ∀ q ∈ l.take i, ¬ q ≤ s) (fun i hi _ hv nx hnx => ?_) (fun _ hv => ⟨0, rfl, .inl rfl, fun _ q hq hs => ?_⟩) () (by simp)
  · by_cases h : l[i] ≤ s
    · rw [if_pos h]
      refine ⟨_, rfl, .inr ⟨List.getElem_mem hi, h⟩, fun _ q hq hs => ?_⟩
      obtain ⟨j, hj, rfl⟩ := List.mem_iff_getElem.mp hq
      rcases Nat.lt_or_ge j i with hji | hji
      · exact absurd hs (hv _ (List.mem_take_iff_getElem.mpr ⟨j, by omega, rfl⟩))
      · rcases Nat.eq_or_lt_of_le hji with e | hji
        · subst e; exact Int.le_refl _
        · have := List.pairwise_iff_getElem.mp hd i j hi hj hji
          omega
    · rw [if_neg h]
      refine hnx () fun q hq => ?_
      rw [List.take_succ_eq_append_getElem hi, List.mem_append, List.mem_singleton] at hq
      rcases hq with hq | rfl
      · exact hv q hq
      · exact h
  · rw [List.take_length] at hv
    exact absurd hs (hv q hq)
theorem pl_cover (L : List Fragment) (hL : FV L) (k : ByteArray) (s : Int) : ∃ m, p_impl_coverSeq L k s = some m ∧ Cov L k s m := by
  have hlen := hL.len
  unfold p_impl_coverSeq
  rw [grd_pos (by omega)]
  refine forK_ex (fun i _ => ∀ f ∈ L.take i, ¬ (¬ kl k f.Low ∧ kl k f.End)) (fun i hi _ hv nx hnx => ?_) (fun _ hv => ⟨0, rfl, ⟨.inl rfl, fun q hq _ => ?_⟩⟩) () (by simp)
  · obtain ⟨_, _, _, h4, h5, h6⟩ := hL.ok _ (List.getElem_mem hi)
    have nxt : ¬ (¬ kl k L[i].Low ∧ kl k L[i].End) → ∀ f ∈ L.take (i + 1), ¬ (¬ kl k f.Low ∧ kl k f.End) := fun h f hf => by
      rw [List.take_succ_eq_append_getElem hi, List.mem_append, List.mem_singleton] at hf
      rcases hf with hf | rfl
      · exact hv f hf
      · exact h
    simp only [kle_b]
    by_cases c1 : kle L[i].Low k = true
    · rw [if_pos c1]
      by_cases c2 : Op.bytesLess k.toList L[i].End.toList = true
      · rw [if_pos c2]
        obtain ⟨m, e, m1, m2⟩ := pl_atMost L[i].Seqs s (by omega) h5
        rw [e, callK_some]
        have c1' := kle_iff.mp c1
        refine ⟨m, rfl, ⟨m1.imp id fun ⟨a, b⟩ => ⟨⟨_, List.getElem_mem hi, c1', c2, a⟩, b⟩, fun q hq hs => ?_⟩⟩
        obtain ⟨f, hf, f1, f2, f3⟩ := hq
        obtain ⟨j, hj, rfl⟩ := List.mem_iff_getElem.mp hf
        rcases Nat.lt_or_ge j i with hji | hji
        · exact absurd ⟨f1, f2⟩ (hv _ (List.mem_take_iff_getElem.mpr ⟨j, by omega, rfl⟩))
        · rcases Nat.eq_or_lt_of_le hji with e2 | hji
          · subst e2
            exact m2 (fun x hx => (h6 x hx).1) q f3 hs
          · have h7 := List.pairwise_iff_getElem.mp hL.srt i j hi hj hji
            exact absurd (kl_lt_le c2 h7) f1
      · rw [if_neg c2]
        exact hnx () (nxt fun h => c2 h.2)
    · rw [if_neg c1]
      exact hnx () (nxt fun h => c1 (kle_iff.mpr h.1))
  · rw [List.take_length] at hv
    obtain ⟨f, hf, f1, f2, _⟩ := hq
    exact absurd ⟨f1, f2⟩ (hv f hf)
theorem pl_decr (l : List Int) (hl : l.length ≤ 1000) (hd : l.Pairwise (· > ·)) : p_impl_decreasing l = some true := by
  unfold p_impl_decreasing
  refine iterK_rule (fun d (v : Int) => ∃ i : Nat, v = (i : Int) ∧ 1 ≤ i ∧ d = l.length - i) ?_ (l.length - 1) _ (by unfold NN; omega) ⟨1, rfl, by omega, rfl⟩
  rintro d v ⟨i, rfl, h1, rfl⟩ nx hnx
  by_cases h : i < l.length
  · have := List.pairwise_iff_getElem.mp hd (i - 1) i (by omega) h (by omega)
    rw [if_pos (by omega), getK_lt h, wrap_sm _ (by omega) (by omega), show (i : Int) - 1 = ((i - 1 : Nat) : Int) by omega, getK_lt (by omega), if_neg (by omega), wrap_sm _ (by omega) (by omega)]
    exact hnx (l.length - (i + 1)) _ (by omega) ⟨i + 1, by push_cast; rfl, by omega, rfl⟩
  · rw [if_neg (by omega)]
theorem pl_allW (l : List Int) (a b : Int) (hl : l.length ≤ 1000) (h : ∀ q ∈ l, a ≤ q ∧ q ≤ b) : p_impl_allWithin l a b = some true := by
  have e : p_slices_IndexFunc_impl_allWithin_c1 l a b = some (-1) := by
    unfold p_slices_IndexFunc_impl_allWithin_c1
    rw [grd_pos (by omega)]
    refine forK_rule (fun _ _ => True) (fun i hi _ _ nx hnx => ?_) (fun _ _ => rfl) () trivial
    unfold p_impl_allWithin_c1
    rw [inR_iff.mpr (h _ (List.getElem_mem hi)), callK_some, if_neg (by decide)]
    exact hnx () trivial
  unfold p_impl_allWithin p_slices_ContainsFunc_impl_allWithin_c1
  rw [e]
  rfl
theorem pl_validF (L : List Fragment) (hL : FV L) : p_impl_ValidFragments L = some true := by
  have hlen := hL.len
  unfold p_impl_ValidFragments
  rw [grd_pos (by omega)]
  refine forK_rule (fun _ _ => True) (fun i hi _ _ nx hnx => ?_) (fun _ _ => by rw [decide_eq_true (by omega)]) () trivial
  obtain ⟨h1, h2, h3, h4, h5, h6⟩ := hL.ok _ (List.getElem_mem hi)
  have e : p_impl_fragmentOk L[i] = some true := by
    unfold p_impl_fragmentOk
    have k1 : p_impl_ValidKey L[i].Low = some true := by rw [show p_impl_ValidKey L[i].Low = some (okKey L[i].Low) from rfl, h1]
    have k2 : p_impl_ValidKey L[i].End = some true := by rw [show p_impl_ValidKey L[i].End = some (okKey L[i].End) from rfl, h2]
    rw [k1, callK_some, if_pos rfl, k2, callK_some, if_pos rfl, if_pos (show Op.bytesLess L[i].Low.toList L[i].End.toList = true from h3), inR_iff.mpr (by omega), if_pos rfl, pl_decr _ (by omega) h5, callK_some, if_pos rfl, pl_allW _ _ _ (by omega) h6, callK_some]
  rw [e, callK_some, if_pos rfl]
  by_cases h0 : (i : Int) > 0
  · rw [if_pos h0, wrap_sm _ (by omega) (by omega), show (i : Int) - 1 = ((i - 1 : Nat) : Int) by omega, getK_lt (by omega)]
    have h7 := List.pairwise_iff_getElem.mp hL.srt (i - 1) i (by omega) hi (by omega)
    simp only [kle_b]
    rw [if_pos (kle_iff.mpr h7)]
    exact hnx () trivial
  · rw [if_neg h0]
    exact hnx () trivial
theorem pl_CoverSeq (L : List Fragment) (hL : FV L) (k : ByteArray) (hk : okKey k = true) (s : Int) : ∃ m, p_impl_CoverSeq L k s = some m ∧ Cov L k s m := by
  obtain ⟨m, e, hm⟩ := pl_cover L hL k s
  unfold p_impl_CoverSeq
  rw [pl_validF L hL, callK_some, if_pos rfl, show p_impl_ValidKey k = some (okKey k) from rfl, callK_some, hk, if_pos rfl, e, callK_some]
  exact ⟨m, rfl, hm⟩
/-! ### What split makes is valid -/
structure Frg (L : List Fragment) (S : List Int) : Prop where
  ok : ∀ f ∈ L, okKey f.Low = true ∧ okKey f.End = true ∧ f.Seqs.length ≤ 1000 ∧ ∀ q ∈ f.Seqs, q ∈ S
  rng : ∀ q ∈ S, 1 ≤ q ∧ q ≤ 1000000
  sl : S.length ≤ 60
  len : L.length ≤ 60
theorem nodup_le : ∀ {l S : List Int}, l.Nodup → (∀ q ∈ l, q ∈ S) → l.length ≤ S.length
  | [], _, _, _ => Nat.zero_le _
  | x :: l, S, h, hs => by
    rw [List.nodup_cons] at h
    have hx := hs x (by simp)
    have ih := nodup_le (l := l) (S := S.erase x) h.2 fun q hq => by
      rw [List.mem_erase_of_ne (fun e => h.1 (by rw [← e]; exact hq))]
      exact hs q (by simp [hq])
    have := List.length_erase_of_mem hx
    have := List.length_pos_of_mem hx
    rw [List.length_cons]
    omega
theorem frs_len (L : List Fragment) (B : List ByteArray) : ∀ n, (frs L B n).length ≤ n - 1
  | 0 => by simp [frs]
  | 1 => by simp [frs]
  | n + 2 => by
    have ih := frs_len L B (n + 1)
    have : (frAt L B (n + 1)).length ≤ 1 := by
      unfold frAt
      dsimp only
      split <;> simp
    rw [frs, List.length_append]
    omega
theorem frs_srt {L : List Fragment} {B : List ByteArray} (hs : B.Pairwise kl) : ∀ n, n ≤ B.length → (frs L B n).Pairwise fun f g => ¬ kl g.Low f.End
  | 0, _ => by simp [frs]
  | 1, _ => by simp [frs]
  | n + 2, h => by
    have mono : ∀ i j (hi : i < B.length) (hj : j < B.length), i < j → kl B[i] B[j] := fun i j hi hj h => List.pairwise_iff_getElem.mp hs i j hi hj h
    rw [frs, List.pairwise_append]
    refine ⟨frs_srt hs (n + 1) (by omega), ?_, fun f hf g hg => ?_⟩
    · rw [frAt_eq L B (n + 1) (by omega) (by omega)]
      split <;> simp
    · obtain ⟨i, i1, i2, i3⟩ := frs_mem.mp hf
      rw [frAt_eq L B i i1 (by omega)] at i3
      rw [frAt_eq L B (n + 1) (by omega) (by omega)] at hg
      split at i3
      · simp at i3
      split at hg
      · simp at hg
      rw [List.mem_singleton] at i3 hg
      subst i3 hg
      dsimp only
      rcases Nat.eq_or_lt_of_le (show i ≤ n by omega) with e | h3
      · subst e; exact kl_irr _
      · exact kl_as (mono i n (by omega) (by omega) h3)
theorem spl_ok (L : List Fragment) (S : List Int) (h : Frg L S) : FV (spl L) := by
  refine ⟨fun g hg => ?_, frs_srt (bd_sorted L) _ (Nat.le_refl _), ?_⟩
  · obtain ⟨i, i1, i2, i3, rfl⟩ := spl_mem.mp hg
    have kb : ∀ x ∈ bd L, okKey x = true := fun x hx => by
      obtain ⟨f, hf, h1⟩ := bd_mem.mp hx
      rcases h1 with rfl | rfl
      · exact (h.ok f hf).1
      · exact (h.ok f hf).2.1
    have hS : ∀ q ∈ sq L ((bd L)[i - 1]'(by omega)) (bd L)[i], q ∈ S := fun q hq => by
      obtain ⟨f, hf, _, _, hq2⟩ := sq_mem.mp hq
      exact (h.ok f hf).2.2.2 q hq2
    have hd := sq_desc L ((bd L)[i - 1]'(by omega)) (bd L)[i]
    have hn := nodup_le (hd.imp fun h e => by omega) hS
    have := h.sl
    exact ⟨kb _ (List.getElem_mem _), kb _ (List.getElem_mem _), List.pairwise_iff_getElem.mp (bd_sorted L) (i - 1) i (by omega) i2 (by omega), ⟨List.length_pos_iff.mpr i3, by dsimp only; omega⟩, hd, fun q hq => h.rng q (hS q hq)⟩
  · have h1 := frs_len L (bd L) (bd L).length
    have h2 := cpt_len (sortS (bds L))
    have h3 := (sortS_perm (bds L)).length_eq
    have h4 := bds_len L
    have h5 := h.len
    have h6 : (bd L).length ≤ (sortS (bds L)).length := h2
    unfold spl
    omega

/-! ### The drawn runs -/
theorem rgs_ok {code : List Int} (h : ∀ x ∈ code, 0 ≤ x ∧ x ≤ 255) (hl : code.length ≤ 1048576) : ∃ l, p_spec_A8Ranges code = some l ∧ Run l ∧ l.length ≤ 7 := by
  unfold p_spec_A8Ranges p_spec_l23Run
  obtain ⟨s, e0, o0⟩ := from_ok h hl
  obtain ⟨y1, s1, e1, ⟨b1, b1', _⟩, o1⟩ := pick_ok (b := 90000) 7 (by omega) (o0.le (by omega))
  have b1' := b1' (by omega)
  rw [e0, callK_some, e1, callK_some]
  dsimp only
  obtain ⟨r, e, g1, g2⟩ := iterK_ex (Q := fun (r : List Record × Sl00Src) => Run r.1 ∧ r.1.length ≤ 7)
    (f := fun ((v2, v3, v4, v5) : ((List Record) × Int × Int × Sl00Src)) (nx6 : ((List Record) × Int × Int × Sl00Src) → Option (List Record × Sl00Src)) =>
    if v4 > 0 then
      callK (p_spec_l00Src_pick 3 v5) fun y8 =>
      callK (p_spec_l17Draw (IntKind.i64.wrap (v3 + (IntKind.i64.wrap (1 + y8.1)))) y8.2) fun y9 =>
      callK (p_spec_l00Src_one 2 y9.2) fun y10 =>
      if y10.1 = true then
        callK (p_spec_l00Src_text ([(⟨#[97]⟩ : ByteArray), (⟨#[98]⟩ : ByteArray), (⟨#[99]⟩ : ByteArray)] : List ByteArray) y10.2) fun y12 =>
        callK (p_spec_l00Src_text ([(⟨#[100]⟩ : ByteArray), (⟨#[101]⟩ : ByteArray), (⟨#[102]⟩ : ByteArray)] : List ByteArray) y12.2) fun y13 =>
        callK (p_spec_l17Into v2 (⟨y12.1, (IntKind.i64.wrap (v3 + (IntKind.i64.wrap (1 + y8.1)))), 3, (⟨#[]⟩ : ByteArray), y13.1⟩ : Record)) fun y14 =>
        nx6 (y14, (IntKind.i64.wrap (v3 + (IntKind.i64.wrap (1 + y8.1)))), (IntKind.i64.wrap (v4 - 1)), y13.2)
      else
        callK (p_spec_l17Into v2 y9.1) fun y15 =>
        nx6 (y15, (IntKind.i64.wrap (v3 + (IntKind.i64.wrap (1 + y8.1)))), (IntKind.i64.wrap (v4 - 1)), y10.2)
    else
      some (v2, v5))
    (fun d s => s.2.2.1 = d ∧ d ≤ 7 ∧ Run s.1 ∧ s.1.length + d ≤ 7 ∧ (∀ x ∈ s.1, x.Seq ≤ s.2.1) ∧ 0 ≤ s.2.1 ∧ s.2.1 + 3 * d ≤ 100 ∧ SrcOk (1000 + d * 40) s.2.2.2)
    (fun d s hs nx hnx => by
      obtain ⟨v2, v3, v4, v5⟩ := s
      obtain ⟨h1, h2, h3, h4, h5, h6, h7, h8⟩ := hs
      dsimp only at h1 h3 h4 h5 h6 h7 h8 ⊢
      subst h1
      by_cases hd : (d : Int) > 0
      · rw [if_pos hd]
        obtain ⟨a, sa, ea, ⟨ba, ba', _⟩, oa⟩ := pick_ok (b := 1000 + (d : Int) * 40 - 4) 3 (by omega) (h8.le (by omega))
        have ba' := ba' (by omega)
        have wa : IntKind.i64.wrap (1 + a) = 1 + a := wrap_sm _ (by omega) (by omega)
        have wb : IntKind.i64.wrap (v3 + (1 + a)) = v3 + (1 + a) := wrap_sm _ (by omega) (by omega)
        rw [ea, callK_some]
        dsimp only
        rw [wa, wb]
        obtain ⟨c, sc, ec, c1, c2, oc⟩ := draw_ok (b := 1000 + (d : Int) * 40 - 20) (q := v3 + (1 + a)) (by omega) (by omega) (oa.le (by omega))
        obtain ⟨o, so, eo, oo⟩ := one_ok (b := 1000 + (d : Int) * 40 - 24) 2 (by omega) (oc.le (by omega))
        rw [ec, callK_some]
        dsimp only
        rw [eo, callK_some]
        dsimp only
        have w : IntKind.i64.wrap ((d : Int) - 1) = ((d - 1 : Nat) : Int) := by rw [wrap_sm _ (by omega) (by omega)]; omega
        have go : ∀ (c : Record) (sc : Sl00Src), c.Seq = v3 + (1 + a) → okRec c = true → SrcOk (1000 + (d : Int) * 40 - 40) sc → ∃ r, nx (into v2 c, v3 + (1 + a), ((d - 1 : Nat) : Int), sc) = some r ∧ Run r.1 ∧ r.1.length ≤ 7 := fun c sc c1 c2 oc => by
          have hin := into_len_le c v2
          refine hnx (d - 1) _ (by omega) ⟨rfl, by omega, h3.into c2 (fun x hx => by have := h5 x hx; omega), by dsimp only; omega, fun x hx => ?_, by dsimp only; omega, by dsimp only; omega, oc.le (by omega)⟩
          dsimp only at hx ⊢
          rcases into_mem.mp hx with hx | rfl
          · have := h5 x hx; omega
          · omega
        cases o with
        | true =>
          rw [if_pos rfl]
          obtain ⟨lo, s3, e3, m3, o3⟩ := text_ok (b := 1000 + (d : Int) * 40 - 30) ([(⟨#[97]⟩ : ByteArray), (⟨#[98]⟩ : ByteArray), (⟨#[99]⟩ : ByteArray)] : List ByteArray) (by simp) (by omega) (oo.le (by omega))
          obtain ⟨hi, s4, e4, m4, o4⟩ := text_ok (b := 1000 + (d : Int) * 40 - 40) ([(⟨#[100]⟩ : ByteArray), (⟨#[101]⟩ : ByteArray), (⟨#[102]⟩ : ByteArray)] : List ByteArray) (by simp) (by omega) (o3.le (by omega))
          rw [e3, callK_some]
          dsimp only
          rw [e4, callK_some]
          dsimp only
          rw [pl_into _ (by omega), callK_some, w]
          refine go ⟨lo, v3 + (1 + a), 3, ⟨#[]⟩, hi⟩ s4 rfl (okRec_mk ?_ (by omega) (.inr (.inr ⟨rfl, rfl, ?_, ?_⟩))) o4
          · simp only [List.mem_cons, List.not_mem_nil, or_false] at m3
            rcases m3 with rfl | rfl | rfl <;> rfl
          · simp only [List.mem_cons, List.not_mem_nil, or_false] at m4
            rcases m4 with rfl | rfl | rfl <;> rfl
          · simp only [List.mem_cons, List.not_mem_nil, or_false] at m3 m4
            rcases m3 with rfl | rfl | rfl <;> rcases m4 with rfl | rfl | rfl <;> (unfold kl; rw [toList_data, toList_data]; rfl)
        | false =>
          rw [if_neg (by decide), pl_into _ (by omega), callK_some, w]
          exact go c so c1 c2 (oo.le (by omega))
      · rw [if_neg hd]
        exact ⟨_, rfl, h3, by dsimp only; omega⟩)
    y1.toNat ([], 0, y1, s1) (by unfold NN; omega) ⟨by show y1 = _; omega, by omega, .nil, by simp; omega, by simp, by show (0 : Int) ≤ 0; omega, by show (0 : Int) + 3 * _ ≤ _; omega, o1.le (by omega)⟩
  rw [e, callK_some]
  exact ⟨r.1, rfl, g1, g2⟩
/-- The ranges of a run, as fragments. -/
def rgf (l : List Record) : List Fragment := (l.filter fun r => r.Kind == 3).map fun r => ⟨r.Key, r.End, [r.Seq]⟩
theorem rgf_len (l : List Record) : (rgf l).length ≤ l.length := by unfold rgf; rw [List.length_map]; exact List.length_filter_le _ _
theorem pl_FragsOf {l : List Record} (h : Run l) (hl : l.length ≤ 7) : p_impl_FragmentsOf l = some (spl (rgf l)) := by
  unfold p_impl_FragmentsOf p_impl_fragmentsOf
  rw [pl_iRun h (by omega), callK_some, if_pos rfl, if_neg (by omega), grd_pos (by omega)]
  have hs : ∀ f ∈ rgf l, f.Seqs.length ≤ 1000 := fun f hf => by
    unfold rgf at hf
    obtain ⟨r, _, rfl⟩ := List.mem_map.mp hf
    simp
  have hgl := rgf_len l
  have := forK_rule (R := List Fragment) (l := l) (f := fun (i7 : Nat) x10 (v8 : List Fragment) (nx9 : (List Fragment) → Option (List Fragment)) =>
    callK (p_impl_isRange x10) fun y11 =>
    if y11 = true then
      grd (appOk (v8.length + 1) 56 = true) <|
      nx9 (v8 ++ ([(⟨x10.Key, x10.End, ([x10.Seq] : List Int)⟩ : Fragment)] : List Fragment))
    else
      nx9 v8) (k := fun (v8 : List Fragment) =>
    callK (p_impl_split v8) fun y13 =>
    some y13) (res := some (spl (rgf l))) (fun i v => v = rgf (l.take i)) (fun i hi v hv nx hnx => by
      subst hv
      have h1 := rgf_len (l.take i)
      rw [List.length_take] at h1
      have hst : rgf (l.take (i + 1)) = rgf (l.take i) ++ (if (l[i].Kind == 3) = true then [⟨l[i].Key, l[i].End, [l[i].Seq]⟩] else []) := by
        unfold rgf
        rw [List.take_succ_eq_append_getElem hi, List.filter_append, List.map_append]
        congr 1
        by_cases c : (l[i].Kind == 3) = true
        · rw [if_pos c, List.filter_cons_of_pos (by exact c)]; rfl
        · rw [if_neg c, List.filter_cons_of_neg (by exact c)]; rfl
      unfold p_impl_isRange
      rw [callK_some]
      by_cases c : (l[i].Kind == 3) = true
      · rw [if_pos c, grd_pos (appOk_of _ _ (by omega))]
        exact hnx _ (by rw [hst, if_pos c])
      · rw [if_neg c]
        exact hnx _ (by rw [hst, if_neg c, List.append_nil])) (fun v hv => by
      rw [List.take_length] at hv
      subst hv
      rw [pl_split _ (by omega) hs, callK_some]) [] rfl
  rw [this, callK_some]
theorem spl_len (L : List Fragment) : (spl L).length ≤ 2 * L.length := by
  have h1 := frs_len L (bd L) (bd L).length
  have h2 : (bd L).length ≤ (sortS (bds L)).length := cpt_len (sortS (bds L))
  have h3 := (sortS_perm (bds L)).length_eq
  have h4 := bds_len L
  unfold spl
  omega
theorem okRec_range {r : Record} (h : okRec r = true) (hk : r.Kind = 3) : okKey r.Key = true ∧ okKey r.End = true ∧ kl r.Key r.End := by
  unfold okRec at h
  rw [if_neg (by omega), if_neg (by omega), if_pos hk] at h
  simp only [Bool.and_eq_true] at h
  exact ⟨h.1, h.2.2.2.1, h.2.2.2.2⟩
theorem rgf_frg {l : List Record} (h : Run l) (hl : l.length ≤ 7) : Frg (rgf l) (l.map (·.Seq)) := by
  refine ⟨fun f hf => ?_, fun q hq => ?_, by rw [List.length_map]; omega, by have := rgf_len l; omega⟩
  · unfold rgf at hf
    obtain ⟨r, hr, rfl⟩ := List.mem_map.mp hf
    obtain ⟨h1, h2⟩ := List.mem_filter.mp hr
    obtain ⟨k1, k2, _⟩ := okRec_range (h.ok r h1) (by simpa using h2)
    refine ⟨k1, k2, by simp, fun q hq => ?_⟩
    rw [List.mem_singleton] at hq
    subst hq
    exact List.mem_map.mpr ⟨r, h1, rfl⟩
  · obtain ⟨r, hr, rfl⟩ := List.mem_map.mp hq
    exact okRec_seq (h.ok r hr)
theorem spl_seqs {L : List Fragment} {S : List Int} (h : Frg L S) : ∀ f ∈ spl L, ∀ q ∈ f.Seqs, q ∈ S := fun g hg q hq => by
  obtain ⟨i, i1, i2, i3, rfl⟩ := spl_mem.mp hg
  obtain ⟨f, hf, _, _, hq2⟩ := sq_mem.mp hq
  exact (h.ok f hf).2.2.2 q hq2
theorem both_frg {a b : List Record} (ha : Run a) (hb : Run b) (la : a.length ≤ 7) (lb : b.length ≤ 7) : Frg (spl (rgf a) ++ spl (rgf b)) (a.map (·.Seq) ++ b.map (·.Seq)) := by
  have fa := rgf_frg ha la
  have fb := rgf_frg hb lb
  have va := spl_ok _ _ fa
  have vb := spl_ok _ _ fb
  have l1 := spl_len (rgf a)
  have l2 := spl_len (rgf b)
  have l3 := rgf_len a
  have l4 := rgf_len b
  refine ⟨fun f hf => ?_, fun q hq => ?_, by rw [List.length_append, List.length_map, List.length_map]; omega, by rw [List.length_append]; omega⟩
  · rcases List.mem_append.mp hf with hf | hf
    · obtain ⟨k1, k2, _, k3, _⟩ := va.ok f hf
      exact ⟨k1, k2, by omega, fun q hq => List.mem_append_left _ (spl_seqs fa f hf q hq)⟩
    · obtain ⟨k1, k2, _, k3, _⟩ := vb.ok f hf
      exact ⟨k1, k2, by omega, fun q hq => List.mem_append_right _ (spl_seqs fb f hf q hq)⟩
  · rcases List.mem_append.mp hq with hq | hq
    · exact fa.rng q hq
    · exact fb.rng q hq
theorem Cov.uniq {L M : List Fragment} {k : ByteArray} {s m n : Int} (h0 : ∀ q, Ind L k q → 1 ≤ q) (hi : ∀ q, Ind L k q ↔ Ind M k q) (h1 : Cov L k s m) (h2 : Cov M k s n) : m = n := by
  have a1 : m ≤ n ∨ m = 0 := h1.has.elim .inr fun ⟨a, b⟩ => .inl (h2.top m ((hi m).mp a) b)
  have a2 : n ≤ m ∨ n = 0 := h2.has.elim .inr fun ⟨a, b⟩ => .inl (h1.top n ((hi n).mpr a) b)
  have b1 : m = 0 ∨ 1 ≤ m := h1.has.imp id fun ⟨a, _⟩ => h0 m a
  have b2 : n = 0 ∨ 1 ≤ n := h2.has.imp id fun ⟨a, _⟩ => h0 n ((hi n).mpr a)
  omega
theorem Ind.app {f g : List Fragment} {k : ByteArray} {q : Int} : Ind (f ++ g) k q ↔ Ind f k q ∨ Ind g k q := by
  unfold Ind
  constructor
  · rintro ⟨x, hx, h⟩
    rcases List.mem_append.mp hx with hx | hx
    · exact .inl ⟨x, hx, h⟩
    · exact .inr ⟨x, hx, h⟩
  · rintro (⟨x, hx, h⟩ | ⟨x, hx, h⟩)
    · exact ⟨x, List.mem_append_left _ hx, h⟩
    · exact ⟨x, List.mem_append_right _ hx, h⟩

/-! ### Snapshots -/
structure Snap (l : List Int) : Prop where
  inR : ∀ x ∈ l, 0 ≤ x ∧ x ≤ 1000000
  up : l.Pairwise (· < ·)
  len : l.length ≤ 4
theorem adj_up : ∀ {l : List Int}, (∀ i, ∀ (h : i + 1 < l.length), l[i] < l[i + 1]) → l.Pairwise (· < ·)
  | [], _ => .nil
  | [_], _ => by simp
  | x :: y :: l, h => by
    have ih := adj_up (l := y :: l) fun i hi => by have := h (i + 1) (by simpa using hi); simpa using this
    refine List.pairwise_cons.mpr ⟨fun z hz => ?_, ih⟩
    have h0 : x < y := by have := h 0 (by simp); simpa using this
    rcases List.mem_cons.mp hz with rfl | hz
    · exact h0
    · have := (List.pairwise_cons.mp ih).1 z hz; omega
theorem pl_sSnap {l : List Int} (hl : l.length ≤ 1000000) : ∃ b, p_spec_l23Snapshots l = some b ∧ (b = true → Snap l) := by
  unfold p_spec_l23Snapshots
  rw [grd_pos (by omega)]
  refine forK_ex (fun i _ => (∀ j, ∀ (hj : j < l.length), j < i → 0 ≤ l[j] ∧ l[j] ≤ 1000000) ∧ ∀ j, ∀ (hj : j + 1 < l.length), j + 1 < i → l[j] < l[j + 1]) (fun i hi s hs nx hnx => ?_) (fun s hs => ?_) () ⟨fun j hj h => by omega, fun j hj h => by omega⟩
  · obtain ⟨h1, h2⟩ := hs
    by_cases hx : inR l[i] 0 1000000 = true
    · rw [if_pos hx]
      have hx2 := inR_iff.mp hx
      have g1 : ∀ j, ∀ (hj : j < l.length), j < i + 1 → 0 ≤ l[j] ∧ l[j] ≤ 1000000 := fun j hj h => by
        by_cases e : j = i
        · subst e; exact hx2
        · exact h1 j hj (by omega)
      by_cases h0 : (i : Int) > 0
      · have hw : IntKind.i64.wrap ((i : Int) - 1) = ((i - 1 : Nat) : Int) := by rw [wrap_sm _ (by omega) (by omega)]; omega
        rw [if_pos h0, hw, getK_lt (by omega)]
        by_cases hc : l[i - 1] ≥ l[i]
        · rw [if_pos hc]; exact ⟨false, rfl, fun h => by simp at h⟩
        · rw [if_neg hc]
          refine hnx () ⟨g1, fun j hj h => ?_⟩
          by_cases e : j + 1 = i
          · subst e
            simp only [Nat.add_sub_cancel] at hc
            omega
          · exact h2 j hj (by omega)
      · rw [if_neg h0]
        exact hnx () ⟨g1, fun j hj h => by omega⟩
    · rw [if_neg hx]
      exact ⟨false, rfl, fun h => by simp at h⟩
  · refine ⟨_, rfl, fun h => ?_⟩
    simp only [decide_eq_true_eq] at h
    exact ⟨fun x hx => by obtain ⟨j, hj, rfl⟩ := List.mem_iff_getElem.mp hx; exact hs.1 j hj hj, adj_up fun j hj => hs.2 j hj hj, by omega⟩
theorem any_not {α : Type} (p : α → Bool) (l : List α) : (!l.any (fun x => !p x)) = l.all p := by rw [List.not_any_eq_all_not]; simp
theorem pl_within1 (x a b : Int) : p_impl_allWithin_c1 x a b = some (!inR x a b) := by unfold p_impl_allWithin_c1; simp
theorem pl_allWS (l : List Int) (a b : Int) (h : l.length ≤ 1000000) : p_impl_allWithin l a b = some (l.all fun x => inR x a b) := by
  unfold p_impl_allWithin p_slices_ContainsFunc_impl_allWithin_c1 p_slices_IndexFunc_impl_allWithin_c1
  rw [grd_pos (by omega), forK_idx (p := fun x => !inR x a b) (fun x => pl_within1 x a b)]
  simp only [callK_some, idxP_any, any_not]
theorem pl_incr {l : List Int} (h : l.Pairwise (· < ·)) (hl : l.length ≤ 1000000) : p_impl_increasing l = some true := by
  unfold p_impl_increasing
  refine iterK_rule (fun (d : Nat) (v : Int) => 1 ≤ v ∧ v + d = l.length + 1) (fun d v hv nx hnx => ?_) l.length 1 (by unfold NN; omega) ⟨by omega, by omega⟩
  obtain ⟨h1, h2⟩ := hv
  by_cases hc : v < (l.length : Int)
  · have hw : IntKind.i64.wrap (v - 1) = v - 1 := wrap_sm _ (by omega) (by omega)
    have hw2 : IntKind.i64.wrap (v + 1) = v + 1 := wrap_sm _ (by omega) (by omega)
    have hlt := List.pairwise_iff_getElem.mp h (v - 1).toNat v.toNat (by omega) (by omega) (by omega)
    rw [if_pos hc, getK_in (by omega) hc, hw, getK_in (by omega) (by omega), if_neg (by omega), hw2]
    exact hnx (d - 1) _ (by omega) ⟨by omega, by omega⟩
  · rw [if_neg hc]
theorem pl_iSnap {l : List Int} (h : Snap l) : p_impl_snapshotsOk l = some true := by
  unfold p_impl_snapshotsOk
  have hl := h.len
  rw [if_pos (by omega), pl_incr h.up (by omega), callK_some, if_pos rfl, pl_allWS _ _ _ (by omega), callK_some]
  congr 1
  exact List.all_eq_true.mpr fun x hx => inR_iff.mpr (h.inR x hx)
theorem drawSnap_ok {s : Sl00Src} (h : SrcOk 100000 s) : ∃ r, p_spec_l23DrawSnapshots s = some r ∧ r.1.length ≤ 100 := by
  unfold p_spec_l23DrawSnapshots
  obtain ⟨y1, s1, e1, ⟨b1, b1', _⟩, o1⟩ := pick_ok (b := 90000) 3 (by omega) (h.le (by omega))
  have b1' := b1' (by omega)
  obtain ⟨y2, s2, e2, ⟨b2, b2', _⟩, o2⟩ := pick_ok (b := 80000) 4 (by omega) (o1.le (by omega))
  have b2' := b2' (by omega)
  rw [e1, callK_some, e2, callK_some]
  dsimp only
  refine iterK_ex (fun (d : Nat) (s : Int × Int × Sl00Src × List Int) => s.2.1 = d ∧ d ≤ 3 ∧ SrcOk (1000 + d * 10) s.2.2.1 ∧ s.2.2.2.length + d ≤ 3) (fun d s hs nx hnx => ?_) y2.toNat (y1, y2, s2, []) (by unfold NN; omega) ⟨by show y2 = _; omega, by omega, o2.le (by omega), by simp; omega⟩
  obtain ⟨v3, v4, v5, v6⟩ := s
  obtain ⟨h1, h2, h3, h4⟩ := hs
  dsimp only at h1 h3 h4 ⊢
  subst h1
  by_cases hd : (d : Int) > 0
  · rw [if_pos hd, grd_pos (appOk_of _ _ (by omega))]
    obtain ⟨a, sa, ea, _, oa⟩ := pick_ok (b := 1000 + (d : Int) * 10 - 10) 6 (by omega) (h3.le (by omega))
    rw [ea, callK_some]
    dsimp only
    have w : IntKind.i64.wrap ((d : Int) - 1) = ((d - 1 : Nat) : Int) := by rw [wrap_sm _ (by omega) (by omega)]; omega
    rw [w]
    exact hnx (d - 1) _ (by omega) (by exact ⟨rfl, by omega, oa.le (by omega), by simp; omega⟩)
  · rw [if_neg hd]
    obtain ⟨q, sq, eq, oq⟩ := one_ok (b := 900) 12 (by omega) (h3.le (by omega))
    rw [eq, callK_some]
    dsimp only
    split
    · obtain ⟨z, sz, ez, _, oz⟩ := among_ok (b := 800) (s := sq) ([(-1), 3, 1000000, 1000001] : List Int) (by simp) (by omega) (oq.le (by omega))
      rw [ez, callK_some, grd_pos (appOk_of _ _ (by omega))]
      exact ⟨_, rfl, by simp; omega⟩
    · exact ⟨_, rfl, by dsimp only; omega⟩
theorem snaps_ok {code : List Int} (h : ∀ x ∈ code, 0 ≤ x ∧ x ≤ 255) (hl : code.length ≤ 1048576) : ∃ l, p_spec_A8Snapshots code = some l ∧ Snap l := by
  unfold p_spec_A8Snapshots
  obtain ⟨s, e0, o0⟩ := from_ok h hl
  obtain ⟨r, e1, l1⟩ := drawSnap_ok (o0.le (by omega))
  obtain ⟨b, e2, h2⟩ := pl_sSnap (l := r.1) (by omega)
  rw [e0, callK_some, e1, callK_some, e2, callK_some]
  cases b
  · rw [if_neg (by decide)]
    exact ⟨_, rfl, fun x hx => by simp at hx, .nil, by simp⟩
  · rw [if_pos rfl]
    exact ⟨_, rfl, h2 rfl⟩

/-! ### Pruned fragments -/
def atM : List Int → Int → Int
  | [], _ => 0
  | x :: r, s => if x ≤ s then x else atM r s
theorem pl_atM (l : List Int) (s : Int) (hl : l.length ≤ 1000) : p_impl_atMost l s = some (atM l s) := by
  unfold p_impl_atMost
  rw [grd_pos (by omega)]
  refine forK_rule (fun i _ => atM (l.drop i) s = atM l s) (fun i hi _ hv nx hnx => ?_) (fun _ hv => ?_) () rfl
  · rw [List.drop_eq_getElem_cons hi, atM] at hv
    by_cases h : l[i] ≤ s
    · rw [if_pos h] at hv ⊢
      rw [hv]
    · rw [if_neg h] at hv ⊢
      exact hnx () hv
  · rw [List.drop_length, atM] at hv
    rw [← hv]
/-- The numbers kept: the first, and those that answer at a snapshot. -/
def kpq (L : List Int) (sn : List Int) : List Int → List Int
  | [] => []
  | x :: r => x :: r.filter fun q => sn.any fun s => atM L s == q
theorem kpq_sub (L sn l : List Int) : (kpq L sn l).Sublist l := by
  cases l with
  | nil => exact List.Sublist.refl _
  | cons x r => exact List.Sublist.cons_cons x List.filter_sublist
theorem kpq_head (L sn : List Int) {l : List Int} {q : Int} (h : l.head? = some q) : q ∈ kpq L sn l := by
  cases l with
  | nil => simp at h
  | cons x r => simp only [List.head?_cons, Option.some.injEq] at h; subst h; exact List.mem_cons_self
theorem kpq_keep {L sn l : List Int} {q s : Int} (h : q ∈ l) (hs : s ∈ sn) (he : atM L s = q) : q ∈ kpq L sn l := by
  cases l with
  | nil => simp at h
  | cons x r =>
    rcases List.mem_cons.mp h with rfl | h
    · exact List.mem_cons_self
    · refine List.mem_cons_of_mem _ (List.mem_filter.mpr ⟨h, List.any_eq_true.mpr ⟨s, hs, by simpa using he⟩⟩)
def prn (sn : List Int) (f : Fragment) : Fragment := ⟨f.Low, f.End, kpq f.Seqs sn f.Seqs⟩
theorem prn_FV {L : List Fragment} (h : FV L) (sn : List Int) : FV (L.map (prn sn)) := by
  refine ⟨fun g hg => ?_, ?_, by rw [List.length_map]; exact h.len⟩
  · obtain ⟨f, hf, rfl⟩ := List.mem_map.mp hg
    obtain ⟨h1, h2, h3, ⟨h4, h4'⟩, h5, h6⟩ := h.ok f hf
    have hs := kpq_sub f.Seqs sn f.Seqs
    refine ⟨h1, h2, h3, ⟨?_, Nat.le_trans hs.length_le h4'⟩, h5.sublist hs, fun q hq => h6 q (hs.subset hq)⟩
    have hp : (prn sn f).Seqs ≠ [] := by
      show kpq f.Seqs sn f.Seqs ≠ []
      revert h4
      cases f.Seqs with
      | nil => intro h; simp at h
      | cons x r => intro _; simp [kpq]
    exact List.length_pos_iff.mpr hp
  · rw [List.pairwise_map]
    exact h.srt
theorem ind_prn {L : List Fragment} {sn : List Int} {k : ByteArray} {q : Int} (h : Ind (L.map (prn sn)) k q) : Ind L k q := by
  obtain ⟨g, hg, h1, h2, h3⟩ := h
  obtain ⟨f, hf, rfl⟩ := List.mem_map.mp hg
  exact ⟨f, hf, h1, h2, (kpq_sub _ _ _).subset h3⟩
theorem atM_ge {l : List Int} {s q : Int} (hd : l.Pairwise (· > ·)) (h : q ∈ l) (hs : q ≤ s) : q ≤ atM l s ∧ atM l s ∈ l ∧ atM l s ≤ s := by
  induction l with
  | nil => simp at h
  | cons x r ih =>
    rw [List.pairwise_cons] at hd
    rw [atM]
    by_cases c : x ≤ s
    · rw [if_pos c]
      refine ⟨?_, List.mem_cons_self, c⟩
      rcases List.mem_cons.mp h with rfl | h
      · exact Int.le_refl _
      · have := hd.1 q h; omega
    · rw [if_neg c]
      rcases List.mem_cons.mp h with rfl | h
      · exact absurd hs c
      · obtain ⟨a, b, d⟩ := ih hd.2 h
        exact ⟨a, List.mem_cons_of_mem _ b, d⟩
theorem head_ge {l : List Int} {q : Int} (hd : l.Pairwise (· > ·)) (h : q ∈ l) (ht : ∀ x ∈ l, x ≤ q) : l.head? = some q := by
  cases l with
  | nil => simp at h
  | cons x r =>
    rcases List.mem_cons.mp h with rfl | h2
    · rfl
    · have := (List.pairwise_cons.mp hd).1 q h2
      have := ht x List.mem_cons_self
      omega
theorem prn_cov {L : List Fragment} (h : FV L) {sn : List Int} {k : ByteArray} {s m n : Int} (hs : s = 1000000 ∨ s ∈ sn) (hm : Cov (L.map (prn sn)) k s m) (hn : Cov L k s n) : m = n := by
  have pos : ∀ q, Ind L k q → 1 ≤ q ∧ q ≤ 1000000 := fun q ⟨f, hf, _, _, hq⟩ => (h.ok f hf).2.2.2.2.2 q hq
  have a1 : m = 0 ∨ (1 ≤ m ∧ m ≤ n) := hm.has.imp id fun ⟨a, b⟩ => ⟨(pos _ (ind_prn a)).1, hn.top _ (ind_prn a) b⟩
  have a2 : n = 0 ∨ (1 ≤ n ∧ n ≤ m) := hn.has.imp id fun ⟨a, b⟩ => by
    refine ⟨(pos _ a).1, hm.top _ ?_ b⟩
    obtain ⟨f, hf, h1, h2, h3⟩ := a
    obtain ⟨_, _, _, _, h5, h6⟩ := h.ok f hf
    refine ⟨prn sn f, List.mem_map.mpr ⟨f, hf, rfl⟩, h1, h2, ?_⟩
    show n ∈ kpq f.Seqs sn f.Seqs
    have tp : ∀ q ∈ f.Seqs, q ≤ s → q ≤ n := fun q hq hqs => hn.top q ⟨f, hf, h1, h2, hq⟩ hqs
    rcases hs with rfl | hs
    · exact kpq_head _ _ (head_ge h5 h3 fun x hx => tp x hx (h6 x hx).2)
    · refine kpq_keep h3 hs ?_
      obtain ⟨b1, b2, b3⟩ := atM_ge h5 h3 b
      have := tp _ b2 b3
      omega
  omega
/-- The records of fragments. -/
def frr (L : List Fragment) : List Record := L.flatMap fun f => f.Seqs.map fun q => ⟨f.Low, q, 3, ⟨#[]⟩, f.End⟩
theorem frr_cons (f : Fragment) (L : List Fragment) : (frr (f :: L)).length = f.Seqs.length + (frr L).length := by
  unfold frr
  rw [List.flatMap_cons, List.length_append, List.length_map]
theorem frr_prn (L : List Fragment) (sn : List Int) : (frr (L.map (prn sn))).length ≤ (frr L).length := by
  induction L with
  | nil => exact Nat.le_refl _
  | cons f L ih =>
    have : (prn sn f).Seqs.length ≤ f.Seqs.length := (kpq_sub _ _ _).length_le
    rw [List.map_cons, frr_cons, frr_cons]
    omega
theorem frr_len {L : List Fragment} (h : ∀ f ∈ L, f.Seqs.length ≤ 60) : (frr L).length ≤ L.length * 60 := by
  induction L with
  | nil => exact Nat.zero_le _
  | cons f L ih =>
    have h1 := h f List.mem_cons_self
    have h2 := ih fun g hg => h g (List.mem_cons_of_mem _ hg)
    rw [frr_cons, List.length_cons]
    omega

theorem kpq_app (L sn : List Int) {l : List Int} (h : l ≠ []) (y : Int) : kpq L sn (l ++ [y]) = kpq L sn l ++ (if (sn.any fun s => atM L s == y) = true then [y] else []) := by
  cases l with
  | nil => exact absurd rfl h
  | cons x r =>
    rw [List.cons_append, kpq, kpq, List.filter_append, List.cons_append]
    congr 2
    by_cases c : (sn.any fun s => atM L s == y) = true
    · rw [if_pos c, List.filter_cons_of_pos (p := fun q => sn.any fun s => atM L s == q) c]; rfl
    · rw [if_neg c, List.filter_cons_of_neg (p := fun q => sn.any fun s => atM L s == q) c]; rfl
theorem pl_keepc (f : Fragment) (sn : List Int) (hn : sn.length ≤ 4) (hl : f.Seqs.length ≤ 60) (q : Int) : p_slices_ContainsFunc_impl_PruneFragments_c1 sn f q = some (sn.any fun s => atM f.Seqs s == q) := by
  unfold p_slices_ContainsFunc_impl_PruneFragments_c1 p_slices_IndexFunc_impl_PruneFragments_c1
  rw [grd_pos (by omega), forK_idx (f := fun x => p_impl_PruneFragments_c1 x f q) (p := fun s => atM f.Seqs s == q) (fun s => by unfold p_impl_PruneFragments_c1; rw [pl_atM _ _ (by omega), callK_some])]
  rw [callK_some, idxP_any]
theorem pl_keep {R : Type} (f : Fragment) (sn : List Int) (hn : sn.length ≤ 4) (hl : f.Seqs.length ≤ 60) (k : List Int → Option R) :
    forK f.Seqs (fun (i34 : Nat) x37 (v35 : List Int) (nx36 : (List Int) → Option _) =>
          if (i34 : Int) = 0 then
            grd (appOk (v35.length + 1) 8 = true) <|
            nx36 (v35 ++ ([x37] : List Int))
          else
            callK (p_slices_ContainsFunc_impl_PruneFragments_c1 sn f x37) fun y39 =>
            if y39 = true then
              grd (appOk (v35.length + 1) 8 = true) <|
              nx36 (v35 ++ ([x37] : List Int))
            else
              nx36 v35) ([] : List Int) k = k (kpq f.Seqs sn f.Seqs) := by
  refine forK_rule (fun i v => v = kpq f.Seqs sn (f.Seqs.take i)) (fun i hi v hv nx hnx => ?_) (fun v hv => by rw [hv, List.take_length]) [] rfl
  have hv2 : v.length ≤ i := by
    have := (kpq_sub f.Seqs sn (f.Seqs.take i)).length_le
    rw [List.length_take] at this
    rw [hv]; omega
  by_cases h0 : i = 0
  · subst h0
    rw [if_pos (by omega), grd_pos (appOk_of _ _ (by omega))]
    refine hnx _ ?_
    rw [hv, List.take_succ_eq_append_getElem hi]
    rfl
  · have hne : f.Seqs.take i ≠ [] := List.ne_nil_of_length_pos (by rw [List.length_take]; omega)
    rw [if_neg (by omega), pl_keepc f sn hn hl, callK_some]
    by_cases c : (sn.any fun s => atM f.Seqs s == f.Seqs[i]) = true
    · rw [if_pos c, grd_pos (appOk_of _ _ (by omega))]
      exact hnx _ (by rw [List.take_succ_eq_append_getElem hi, kpq_app _ _ hne, if_pos c, hv])
    · rw [if_neg c]
      exact hnx _ (by rw [List.take_succ_eq_append_getElem hi, kpq_app _ _ hne, if_neg c, hv, List.append_nil])
theorem pl_prune {F : List Fragment} (hF : FV F) {sn : List Int} (hs : Snap sn) : p_impl_PruneFragments F sn = some (F.map (prn sn), 0) := by
  have hl := hF.len
  unfold p_impl_PruneFragments
  rw [pl_validF F hF, callK_some, if_pos rfl, pl_iSnap hs, callK_some, if_pos rfl, grd_pos (by omega)]
  refine forK_rule (fun i v => v = (F.take i).map (prn sn)) (fun i hi v hv nx hnx => ?_) (fun v hv => by rw [hv, List.take_length]) [] rfl
  obtain ⟨_, _, _, ⟨_, h4⟩, _⟩ := hF.ok _ (List.getElem_mem hi)
  have hv2 : v.length = i := by rw [hv, List.length_map, List.length_take]; omega
  rw [grd_pos (by omega), pl_keep _ sn hs.len h4, grd_pos (appOk_of _ _ (by omega))]
  exact hnx _ (by rw [hv, List.take_succ_eq_append_getElem hi, List.map_append]; rfl)
theorem pl_frs {R : Type} (f : Fragment) (hl : f.Seqs.length ≤ 60) (v0 : List Record) (h0 : v0.length ≤ 10000) (k : List Record → Option R) :
    forK f.Seqs (fun (i23 : Nat) x26 (v24 : List Record) (nx25 : (List Record) → Option _) =>
        grd (appOk (v24.length + 1) 64 = true) <|
        nx25 (v24 ++ ([(⟨f.Low, x26, 3, (⟨#[]⟩ : ByteArray), f.End⟩ : Record)] : List Record))) v0 k = k (v0 ++ f.Seqs.map fun q => ⟨f.Low, q, 3, ⟨#[]⟩, f.End⟩) := by
  refine forK_rule (fun i v => v = v0 ++ (f.Seqs.take i).map fun q => ⟨f.Low, q, 3, ⟨#[]⟩, f.End⟩) (fun i hi v hv nx hnx => ?_) (fun v hv => by rw [hv, List.take_length]) v0 (by simp)
  have hv2 : v.length = v0.length + i := by rw [hv, List.length_append, List.length_map, List.length_take]; omega
  rw [grd_pos (appOk_of _ _ (by omega))]
  exact hnx _ (by rw [hv, List.take_succ_eq_append_getElem hi, List.map_append, List.append_assoc]; rfl)
theorem pl_fragRecs {F : List Fragment} (hF : FV F) : p_impl_FragmentRecords F = some (frr F) := by
  have hl := hF.len
  unfold p_impl_FragmentRecords
  rw [pl_validF F hF, callK_some, if_pos rfl, grd_pos (by omega)]
  refine forK_rule (fun i v => v = frr (F.take i)) (fun i hi v hv nx hnx => ?_) (fun v hv => by rw [hv, List.take_length]) [] rfl
  obtain ⟨_, _, _, ⟨_, h4⟩, _⟩ := hF.ok _ (List.getElem_mem hi)
  have hv2 : v.length ≤ 120 * 60 := by
    have := frr_len (L := F.take i) fun g hg => (hF.ok g (List.mem_of_mem_take hg)).2.2.2.1.2
    rw [List.length_take] at this
    rw [hv]; omega
  rw [grd_pos (by omega), pl_frs _ h4 v (by omega)]
  refine hnx _ ?_
  rw [hv, List.take_succ_eq_append_getElem hi]
  unfold frr
  rw [List.flatMap_append]
  simp
theorem keys5 : ∀ k ∈ ([(⟨#[97]⟩ : ByteArray), (⟨#[98]⟩ : ByteArray), (⟨#[99]⟩ : ByteArray), (⟨#[100]⟩ : ByteArray), (⟨#[101]⟩ : ByteArray)] : List ByteArray), okKey k = true := by
  intro k hk
  simp only [List.mem_cons, List.not_mem_nil, or_false] at hk
  rcases hk with rfl | rfl | rfl | rfl | rfl <;> rfl
theorem pl_law (code : List Int) (hk : okL u8r code) : p_laws_FnPrune code = some true := by
  unfold p_laws_FnPrune
  by_cases hc : (code.length : Int) > 400
  · rw [if_pos hc]
  rw [if_neg hc]
  obtain ⟨a, e1, ra, la⟩ := rgs_ok hk.2 (by omega)
  obtain ⟨m, e2, m1, m2⟩ := mix_ok 8 hk.2 (by omega)
  obtain ⟨sn, e3, hs⟩ := snaps_ok m1 (by omega)
  have va := spl_ok _ _ (rgf_frg ra la)
  rw [e1, callK_some, pl_FragsOf ra la, callK_some, e2, callK_some, e3, callK_some]
  generalize spl (rgf a) = F at va
  have vx := prn_FV va sn
  have hsl := hs.len
  have hle := frr_prn F sn
  have hal : (([1000000] : List Int) ++ sn).length ≤ 5 := by rw [List.length_append, List.length_singleton]; omega
  have hall : ∀ s ∈ ([1000000] : List Int) ++ sn, s = 1000000 ∨ s ∈ sn := fun s h => by simpa using h
  rw [pl_prune va hs, callK_some]
  dsimp only
  rw [if_neg (by simp), pl_validF _ vx, callK_some, if_pos rfl, pl_fragRecs vx, callK_some, pl_fragRecs va, callK_some, if_neg (by omega), grd_pos (appOk_of _ _ (by omega)), grd_pos (by omega)]
  generalize ([1000000] : List Int) ++ sn = at_ at hall hal
  have hkl := keys5
  have hK5 : ([(⟨#[97]⟩ : ByteArray), (⟨#[98]⟩ : ByteArray), (⟨#[99]⟩ : ByteArray), (⟨#[100]⟩ : ByteArray), (⟨#[101]⟩ : ByteArray)] : List ByteArray).length = 5 := rfl
  generalize ([(⟨#[97]⟩ : ByteArray), (⟨#[98]⟩ : ByteArray), (⟨#[99]⟩ : ByteArray), (⟨#[100]⟩ : ByteArray), (⟨#[101]⟩ : ByteArray)] : List ByteArray) = K at hkl hK5 ⊢
  refine forI_rule (fun _ _ => True) (fun i hi _ _ nx hnx => ?_) (fun _ _ => rfl) () trivial
  have hiK : i < K.length := by omega
  have hkk := hkl _ (List.getElem_mem hiK)
  rw [grd_pos (by omega)]
  refine forK_rule (fun _ _ => True) (fun j hj _ _ nx2 hnx2 => ?_) (fun _ _ => hnx () trivial) () trivial
  obtain ⟨m1, q1, c1⟩ := pl_CoverSeq _ vx K[i] hkk at_[j]
  obtain ⟨m2, q2, c2⟩ := pl_CoverSeq _ va K[i] hkk at_[j]
  have hm := prn_cov va (hall _ (List.getElem_mem hj)) c1 c2
  rw [getK_lt hiK, q1, callK_some, q2, callK_some, if_neg (fun h => h hm)]
  exact hnx2 () trivial
theorem f_law (code : List Int) (hk : okL u8r code) : callL E 7 [.d (.arr (code.map rU))] [] = some (BO true, []) := L_laws_FnPrune code (pl_law code hk)


end Go.Proofs.Ytdcgngeepbbikaa.T05

/- FnExactStatesAfter: what its functions come to, and the row; conditions: none. -/
-- nst []impl.Pair []impl.Record
import Derived.Test.YtjnhclnnobejgaaT03
import Derived.Test.YtjnhclnnobejgaaEz
import Derived.Test.YtjnhclnnobejgaaRows
import Derived.WalkKit
import Derived.ProofKit
import Derived.OpenShut
import Derived.ShutString
import Derived.ChangeOld
import Derived.Below
import Derived.SizedLaws
namespace Go.Proofs.Ytjnhclnnobejgaa.T03
open Go.Proofs.YtjnhclnnobejgaaE
set_option maxRecDepth 100000
set_option linter.unusedVariables false
set_option linter.unusedSimpArgs false

noncomputable def p_spec_l00In (a_0 : Int) (a_1 : Int) (a_2 : Int) : Option Bool :=
  if a_0 ≥ a_1 then
    some (decide (a_0 ≤ a_2))
  else
    some false

set_option maxHeartbeats 4000000 in
theorem L_spec_l00In (a_0 : Int) (a_1 : Int) (a_2 : Int) {r : Bool} (h : p_spec_l00In a_0 a_1 a_2 = some r) : callL E 142 [IN a_0, IN a_1, IN a_2] ([] : Fo) = some (BO r, ([] : Fo)) := by
  unfold p_spec_l00In at h
  refine callW (fu := Try.f142) rfl rfl rfl NN ?_
  intro lp cl hlp hcl
  conv => lhs; whnf
  cases hb1 : (decide (a_0 ≥ a_1))
  · replace h := ifF h (decF hb1); conv => lhs; whnf
    try (rw [hb1]; conv => lhs; whnf)
    try (rw [hb1]; conv => lhs; whnf)
    try (rw [hb1]; conv => lhs; whnf)
    obtain rfl := Option.some.inj h; show _ = _; kernel_rfl

  · replace h := ifT h (decT hb1); conv => lhs; whnf
    try (rw [hb1]; conv => lhs; whnf)
    try (rw [hb1]; conv => lhs; whnf)
    try (rw [hb1]; conv => lhs; whnf)
    obtain rfl := Option.some.inj h; show _ = _; kernel_rfl

theorem pl_l00In (n lo hi : Int) : p_spec_l00In n lo hi = some (inR n lo hi) := by
  unfold p_spec_l00In inR
  split
  · rename_i h; simp [h]
  · rename_i h; simp [h]


noncomputable def p_impl_within (a_0 : Int) (a_1 : Int) (a_2 : Int) : Option Bool :=
  if a_0 ≥ a_1 then
    some (decide (a_0 ≤ a_2))
  else
    some false

set_option maxHeartbeats 4000000 in
theorem L_impl_within (a_0 : Int) (a_1 : Int) (a_2 : Int) {r : Bool} (h : p_impl_within a_0 a_1 a_2 = some r) : callL E 157 [IN a_0, IN a_1, IN a_2] ([] : Fo) = some (BO r, ([] : Fo)) := by
  unfold p_impl_within at h
  refine callW (fu := Try.f157) rfl rfl rfl NN ?_
  intro lp cl hlp hcl
  conv => lhs; whnf
  cases hb1 : (decide (a_0 ≥ a_1))
  · replace h := ifF h (decF hb1); conv => lhs; whnf
    try (rw [hb1]; conv => lhs; whnf)
    try (rw [hb1]; conv => lhs; whnf)
    try (rw [hb1]; conv => lhs; whnf)
    obtain rfl := Option.some.inj h; show _ = _; kernel_rfl

  · replace h := ifT h (decT hb1); conv => lhs; whnf
    try (rw [hb1]; conv => lhs; whnf)
    try (rw [hb1]; conv => lhs; whnf)
    try (rw [hb1]; conv => lhs; whnf)
    obtain rfl := Option.some.inj h; show _ = _; kernel_rfl

theorem pl_within (n lo hi : Int) : p_impl_within n lo hi = some (inR n lo hi) := by
  unfold p_impl_within inR
  split
  · rename_i h; simp [h]
  · rename_i h; simp [h]



def cmpB (a b : ByteArray) : Int := Lib.compareBytes a.data.toList b.data.toList
theorem f_Compare (a b : ByteArray) : callL E 271 [ST a, ST b] [] = some (IN (cmpB a b), []) := callX rfl rfl

noncomputable def p_laws_szPair (a_0 : Pair) (a_1 : Int) : Option Int :=
  if (IntKind.i64.wrap (a_1 - (ByteArray.size a_0.Key : Int))) < 0 then
    some (-1)
  else
    if (IntKind.i64.wrap ((IntKind.i64.wrap (a_1 - (ByteArray.size a_0.Key : Int))) - (ByteArray.size a_0.Value : Int))) < 0 then
      some (-1)
    else
      some (IntKind.i64.wrap ((IntKind.i64.wrap (a_1 - (ByteArray.size a_0.Key : Int))) - (ByteArray.size a_0.Value : Int)))

set_option maxHeartbeats 4000000 in
theorem L_laws_szPair (a_0 : Pair) (a_1 : Int) {r : Int} (h : p_laws_szPair a_0 a_1 = some r) : callL E 92 [.agg [ST a_0.Key, ST a_0.Value], IN a_1] ([] : Fo) = some (IN r, ([] : Fo)) := by
  unfold p_laws_szPair at h
  refine callW (fu := Try.f92) rfl rfl rfl NN ?_
  intro lp cl hlp hcl
  conv => lhs; whnf
  cases hb1 : (decide ((IntKind.i64.wrap (a_1 - (ByteArray.size a_0.Key : Int))) < 0))
  · replace h := ifF h (decF hb1); conv => lhs; whnf
    cases hb2 : (decide ((IntKind.i64.wrap ((IntKind.i64.wrap (a_1 - (ByteArray.size a_0.Key : Int))) - (ByteArray.size a_0.Value : Int))) < 0))
    · replace h := ifF h (decF hb2); conv => lhs; whnf
      obtain rfl := Option.some.inj h; show _ = _; kernel_rfl

    · replace h := ifT h (decT hb2); conv => lhs; whnf
      obtain rfl := Option.some.inj h; show _ = _; kernel_rfl

  · replace h := ifT h (decT hb1); conv => lhs; whnf
    obtain rfl := Option.some.inj h; show _ = _; kernel_rfl


noncomputable def p_laws_szPairS (a_0 : List Pair) (a_1 : Int) : Option Int :=
  if (IntKind.i64.wrap (a_1 - (a_0.length : Int))) < 0 then
    some (-1)
  else
    grd (a_0.length < 4611686018427387904) <|
    forK a_0 (fun (i8 : Nat) x11 (v9 : Int) (nx10 : Int → Option _) =>
      callK (p_laws_szPair x11 v9) fun y12 =>
      if y12 < 0 then
        some (-1)
      else
        nx10 y12) (IntKind.i64.wrap (a_1 - (a_0.length : Int))) (fun (v9 : Int) =>
      some v9)

set_option maxHeartbeats 4000000 in
theorem L_laws_szPairS (a_0 : List Pair) (a_1 : Int) {r : Int} (h : p_laws_szPairS a_0 a_1 = some r) : callL E 14 [.d (.arr (a_0.map rPair)), IN a_1] ([] : Fo) = some (IN r, ([] : Fo)) := by
  unfold p_laws_szPairS at h
  refine callW (fu := Try.f14) rfl rfl rfl NN ?_
  intro lp cl hlp hcl
  conv => lhs; whnf
  try rw [len_of (l := a_0) (r := rPair)]
  cases hb1 : (decide ((IntKind.i64.wrap (a_1 - (a_0.length : Int))) < 0))
  · replace h := ifF h (decF hb1); conv => lhs; whnf
    obtain ⟨hl_i8, h⟩ := grd_inv h
    refine loop_for hlp (l := a_0) hl_i8 (fun (i8 : Nat) (v9 : Int) => ([.d (.arr (a_0.map rPair)), IN v9, .dead, .dead, .dead, IN (i8 : Int)] ++ List.replicate 21 .dead : List V)) (fun (i8 : Nat) (v9 : Int) => ([] : Fo)) (fun (r : Int) => ((IN r : V), ([] : Fo))) ?_ ?_ (IntKind.i64.wrap (a_1 - (a_0.length : Int))) _ (fun kk => by kernel_rfl) h
    · clear h
      rintro next_nx10 nx10 i8 hi_i8 hnx10 v9 r h
      try dsimp only at h
      have hn_i8 : i8 < 4611686018427387904 := by omega
      have hx_x11 := get_map rPair a_0 i8 hi_i8
      generalize a_0[i8] = x11 at h hx_x11
      have hd_i8 : (decide ((i8 : Int) < (a_0.length : Int))) = true := decide_eq_true (by omega)
      conv => lhs; whnf
      try rw [len_of (l := a_0) (r := rPair)]
      rw [hd_i8]
      conv => lhs; whnf
      try (rw [decide_eq_true hq_x11]; conv => lhs; whnf)
      rw [hx_x11]
      conv => lhs; whnf
      rw [hx_x11]
      conv => lhs; whnf
      obtain ⟨y12, h_y12, h⟩ := callK_inv h
      rw [cl_eq hcl (L_laws_szPair x11 v9 h_y12)]
      rotate_left
      · show _ = _; kernel_rfl
      · show _ = _; kernel_rfl
      conv => lhs; whnf
      cases hb13 : (decide (y12 < 0))
      · replace h := ifF h (decF hb13); conv => lhs; whnf
        rw [wrap_nat i8 (by have := hn_i8; omega)]
        exact hnx10 _ _ _ _ (fun kk => by kernel_rfl) h
      · replace h := ifT h (decT hb13); conv => lhs; whnf
        obtain rfl := Option.some.inj h; show _ = _; kernel_rfl

    · clear h
      rintro next_nx10 v9 r h
      try dsimp only at h
      have hd_i8 : (decide ((a_0.length : Int) < (a_0.length : Int))) = false := decide_eq_false (by omega)
      conv => lhs; whnf
      try rw [len_of (l := a_0) (r := rPair)]
      rw [hd_i8]
      conv => lhs; whnf
      obtain rfl := Option.some.inj h; show _ = _; kernel_rfl

  · replace h := ifT h (decT hb1); conv => lhs; whnf
    obtain rfl := Option.some.inj h; show _ = _; kernel_rfl


noncomputable def p_laws_szRecord (a_0 : Record) (a_1 : Int) : Option Int :=
  if (IntKind.i64.wrap (a_1 - (ByteArray.size a_0.Key : Int))) < 0 then
    some (-1)
  else
    if (IntKind.i64.wrap ((IntKind.i64.wrap (a_1 - (ByteArray.size a_0.Key : Int))) - (ByteArray.size a_0.Value : Int))) < 0 then
      some (-1)
    else
      if (IntKind.i64.wrap ((IntKind.i64.wrap ((IntKind.i64.wrap (a_1 - (ByteArray.size a_0.Key : Int))) - (ByteArray.size a_0.Value : Int))) - (ByteArray.size a_0.End : Int))) < 0 then
        some (-1)
      else
        some (IntKind.i64.wrap ((IntKind.i64.wrap ((IntKind.i64.wrap (a_1 - (ByteArray.size a_0.Key : Int))) - (ByteArray.size a_0.Value : Int))) - (ByteArray.size a_0.End : Int)))

set_option maxHeartbeats 4000000 in
theorem L_laws_szRecord (a_0 : Record) (a_1 : Int) {r : Int} (h : p_laws_szRecord a_0 a_1 = some r) : callL E 181 [.agg [ST a_0.Key, IN a_0.Seq, IN a_0.Kind, ST a_0.Value, ST a_0.End], IN a_1] ([] : Fo) = some (IN r, ([] : Fo)) := by
  unfold p_laws_szRecord at h
  refine callW (fu := Try.f181) rfl rfl rfl NN ?_
  intro lp cl hlp hcl
  conv => lhs; whnf
  cases hb1 : (decide ((IntKind.i64.wrap (a_1 - (ByteArray.size a_0.Key : Int))) < 0))
  · replace h := ifF h (decF hb1); conv => lhs; whnf
    cases hb2 : (decide ((IntKind.i64.wrap ((IntKind.i64.wrap (a_1 - (ByteArray.size a_0.Key : Int))) - (ByteArray.size a_0.Value : Int))) < 0))
    · replace h := ifF h (decF hb2); conv => lhs; whnf
      cases hb3 : (decide ((IntKind.i64.wrap ((IntKind.i64.wrap ((IntKind.i64.wrap (a_1 - (ByteArray.size a_0.Key : Int))) - (ByteArray.size a_0.Value : Int))) - (ByteArray.size a_0.End : Int))) < 0))
      · replace h := ifF h (decF hb3); conv => lhs; whnf
        obtain rfl := Option.some.inj h; show _ = _; kernel_rfl

      · replace h := ifT h (decT hb3); conv => lhs; whnf
        obtain rfl := Option.some.inj h; show _ = _; kernel_rfl

    · replace h := ifT h (decT hb2); conv => lhs; whnf
      obtain rfl := Option.some.inj h; show _ = _; kernel_rfl

  · replace h := ifT h (decT hb1); conv => lhs; whnf
    obtain rfl := Option.some.inj h; show _ = _; kernel_rfl


noncomputable def p_laws_szRecordS (a_0 : List Record) (a_1 : Int) : Option Int :=
  if (IntKind.i64.wrap (a_1 - (a_0.length : Int))) < 0 then
    some (-1)
  else
    grd (a_0.length < 4611686018427387904) <|
    forK a_0 (fun (i8 : Nat) x11 (v9 : Int) (nx10 : Int → Option _) =>
      callK (p_laws_szRecord x11 v9) fun y12 =>
      if y12 < 0 then
        some (-1)
      else
        nx10 y12) (IntKind.i64.wrap (a_1 - (a_0.length : Int))) (fun (v9 : Int) =>
      some v9)

set_option maxHeartbeats 4000000 in
theorem L_laws_szRecordS (a_0 : List Record) (a_1 : Int) {r : Int} (h : p_laws_szRecordS a_0 a_1 = some r) : callL E 93 [.d (.arr (a_0.map rRecord)), IN a_1] ([] : Fo) = some (IN r, ([] : Fo)) := by
  unfold p_laws_szRecordS at h
  refine callW (fu := Try.f93) rfl rfl rfl NN ?_
  intro lp cl hlp hcl
  conv => lhs; whnf
  try rw [len_of (l := a_0) (r := rRecord)]
  cases hb1 : (decide ((IntKind.i64.wrap (a_1 - (a_0.length : Int))) < 0))
  · replace h := ifF h (decF hb1); conv => lhs; whnf
    obtain ⟨hl_i8, h⟩ := grd_inv h
    refine loop_for hlp (l := a_0) hl_i8 (fun (i8 : Nat) (v9 : Int) => ([.d (.arr (a_0.map rRecord)), IN v9, .dead, .dead, .dead, IN (i8 : Int)] ++ List.replicate 21 .dead : List V)) (fun (i8 : Nat) (v9 : Int) => ([] : Fo)) (fun (r : Int) => ((IN r : V), ([] : Fo))) ?_ ?_ (IntKind.i64.wrap (a_1 - (a_0.length : Int))) _ (fun kk => by kernel_rfl) h
    · clear h
      rintro next_nx10 nx10 i8 hi_i8 hnx10 v9 r h
      try dsimp only at h
      have hn_i8 : i8 < 4611686018427387904 := by omega
      have hx_x11 := get_map rRecord a_0 i8 hi_i8
      generalize a_0[i8] = x11 at h hx_x11
      have hd_i8 : (decide ((i8 : Int) < (a_0.length : Int))) = true := decide_eq_true (by omega)
      conv => lhs; whnf
      try rw [len_of (l := a_0) (r := rRecord)]
      rw [hd_i8]
      conv => lhs; whnf
      try (rw [decide_eq_true hq_x11]; conv => lhs; whnf)
      rw [hx_x11]
      conv => lhs; whnf
      rw [hx_x11]
      conv => lhs; whnf
      obtain ⟨y12, h_y12, h⟩ := callK_inv h
      rw [cl_eq hcl (L_laws_szRecord x11 v9 h_y12)]
      rotate_left
      · show _ = _; kernel_rfl
      · show _ = _; kernel_rfl
      conv => lhs; whnf
      cases hb13 : (decide (y12 < 0))
      · replace h := ifF h (decF hb13); conv => lhs; whnf
        rw [wrap_nat i8 (by have := hn_i8; omega)]
        exact hnx10 _ _ _ _ (fun kk => by kernel_rfl) h
      · replace h := ifT h (decT hb13); conv => lhs; whnf
        obtain rfl := Option.some.inj h; show _ = _; kernel_rfl

    · clear h
      rintro next_nx10 v9 r h
      try dsimp only at h
      have hd_i8 : (decide ((a_0.length : Int) < (a_0.length : Int))) = false := decide_eq_false (by omega)
      conv => lhs; whnf
      try rw [len_of (l := a_0) (r := rRecord)]
      rw [hd_i8]
      conv => lhs; whnf
      obtain rfl := Option.some.inj h; show _ = _; kernel_rfl

  · replace h := ifT h (decT hb1); conv => lhs; whnf
    obtain rfl := Option.some.inj h; show _ = _; kernel_rfl


noncomputable def p_laws_szRecordSS (a_0 : List (List Record)) (a_1 : Int) : Option Int :=
  if (IntKind.i64.wrap (a_1 - (a_0.length : Int))) < 0 then
    some (-1)
  else
    grd (a_0.length < 4611686018427387904) <|
    forK a_0 (fun (i8 : Nat) x11 (v9 : Int) (nx10 : Int → Option _) =>
      callK (p_laws_szRecordS x11 v9) fun y12 =>
      if y12 < 0 then
        some (-1)
      else
        nx10 y12) (IntKind.i64.wrap (a_1 - (a_0.length : Int))) (fun (v9 : Int) =>
      some v9)

set_option maxHeartbeats 4000000 in
theorem L_laws_szRecordSS (a_0 : List (List Record)) (a_1 : Int) {r : Int} (h : p_laws_szRecordSS a_0 a_1 = some r) : callL E 15 [.d (.arr (a_0.map (rL rRecord))), IN a_1] ([] : Fo) = some (IN r, ([] : Fo)) := by
  unfold p_laws_szRecordSS at h
  refine callW (fu := Try.f15) rfl rfl rfl NN ?_
  intro lp cl hlp hcl
  conv => lhs; whnf
  try rw [len_of (l := a_0) (r := (rL rRecord))]
  cases hb1 : (decide ((IntKind.i64.wrap (a_1 - (a_0.length : Int))) < 0))
  · replace h := ifF h (decF hb1); conv => lhs; whnf
    obtain ⟨hl_i8, h⟩ := grd_inv h
    refine loop_for hlp (l := a_0) hl_i8 (fun (i8 : Nat) (v9 : Int) => ([.d (.arr (a_0.map (rL rRecord))), IN v9, .dead, .dead, .dead, IN (i8 : Int)] ++ List.replicate 21 .dead : List V)) (fun (i8 : Nat) (v9 : Int) => ([] : Fo)) (fun (r : Int) => ((IN r : V), ([] : Fo))) ?_ ?_ (IntKind.i64.wrap (a_1 - (a_0.length : Int))) _ (fun kk => by kernel_rfl) h
    · clear h
      rintro next_nx10 nx10 i8 hi_i8 hnx10 v9 r h
      try dsimp only at h
      have hn_i8 : i8 < 4611686018427387904 := by omega
      have hx_x11 := get_map (rL rRecord) a_0 i8 hi_i8
      generalize a_0[i8] = x11 at h hx_x11
      have hd_i8 : (decide ((i8 : Int) < (a_0.length : Int))) = true := decide_eq_true (by omega)
      conv => lhs; whnf
      try rw [len_of (l := a_0) (r := (rL rRecord))]
      rw [hd_i8]
      conv => lhs; whnf
      try (rw [decide_eq_true hq_x11]; conv => lhs; whnf)
      rw [hx_x11]
      conv => lhs; whnf
      rw [hx_x11]
      conv => lhs; whnf
      obtain ⟨y12, h_y12, h⟩ := callK_inv h
      rw [cl_eq hcl (L_laws_szRecordS x11 v9 h_y12)]
      rotate_left
      · show _ = _; kernel_rfl
      · show _ = _; kernel_rfl
      conv => lhs; whnf
      cases hb13 : (decide (y12 < 0))
      · replace h := ifF h (decF hb13); conv => lhs; whnf
        rw [wrap_nat i8 (by have := hn_i8; omega)]
        exact hnx10 _ _ _ _ (fun kk => by kernel_rfl) h
      · replace h := ifT h (decT hb13); conv => lhs; whnf
        obtain rfl := Option.some.inj h; show _ = _; kernel_rfl

    · clear h
      rintro next_nx10 v9 r h
      try dsimp only at h
      have hd_i8 : (decide ((a_0.length : Int) < (a_0.length : Int))) = false := decide_eq_false (by omega)
      conv => lhs; whnf
      try rw [len_of (l := a_0) (r := (rL rRecord))]
      rw [hd_i8]
      conv => lhs; whnf
      obtain rfl := Option.some.inj h; show _ = _; kernel_rfl

  · replace h := ifT h (decT hb1); conv => lhs; whnf
    obtain rfl := Option.some.inj h; show _ = _; kernel_rfl


noncomputable def p_laws_toPair (a_0 : Pair) : Option Unit :=
  some ()

set_option maxHeartbeats 4000000 in
theorem L_laws_toPair (a_0 : Pair) {r : Unit} (h : p_laws_toPair a_0 = some r) : callL E 95 [.agg [ST a_0.Key, ST a_0.Value]] ([] : Fo) = some (.agg [ST a_0.Key, ST a_0.Value], ([] : Fo)) := by
  unfold p_laws_toPair at h
  refine callW (fu := Try.f95) rfl rfl rfl NN ?_
  intro lp cl hlp hcl
  conv => lhs; whnf
  obtain rfl := Option.some.inj h; show _ = _; kernel_rfl


noncomputable def p_laws_toPairS (a_0 : List Pair) : Option (List Pair) :=
  grd (mkOk (a_0.length : Int) (a_0.length : Int) 32 2 = true) <|
  grd (a_0.length < 4611686018427387904) <|
  forK a_0 (fun (i7 : Nat) x10 (v8 : List Pair) (nx9 : (List Pair) → Option _) =>
    callK (p_laws_toPair x10) fun y11 =>
    getK v8 (i7 : Int) fun x12 =>
    nx9 (v8.set (Int.toNat (i7 : Int)) x10)) (List.replicate (Int.toNat (a_0.length : Int)) (⟨(⟨#[]⟩ : ByteArray), (⟨#[]⟩ : ByteArray)⟩ : Pair)) (fun (v8 : List Pair) =>
    some v8)

set_option maxHeartbeats 4000000 in
theorem L_laws_toPairS (a_0 : List Pair) {r : (List Pair)} (h : p_laws_toPairS a_0 = some r) : callL E 17 [.d (.arr (a_0.map rPair))] ([] : Fo) = some (.sl 0, ([some (.arr 148 2 (r.map rPair))] : Fo)) := by
  unfold p_laws_toPairS at h
  refine callW (fu := Try.f17) rfl rfl rfl NN ?_
  intro lp cl hlp hcl
  conv => lhs; whnf
  try rw [len_of (l := a_0) (r := rPair)]
  obtain ⟨hg13, h⟩ := grd_inv h
  rw [mk_eq hg13 ?h1 ?h2 ?h3 ?h4]
  case h1 => exact rfl
  case h2 => exact rfl
  case h3 => exact rfl
  case h4 => exact rfl
  conv => lhs; whnf
  first | (rw [rep_of (r := rPair) (x := (⟨(⟨#[]⟩ : ByteArray), (⟨#[]⟩ : ByteArray)⟩ : Pair)) ?hh]; case hh => exact rfl) | skip
  obtain ⟨hl_i7, h⟩ := grd_inv h
  refine loop_for hlp (l := a_0) hl_i7 (fun (i7 : Nat) (v8 : List Pair) => ([.d (.arr (a_0.map rPair)), .dead, .dead, .sl 0, IN (i7 : Int)] ++ List.replicate 18 .dead : List V)) (fun (i7 : Nat) (v8 : List Pair) => ([some (.arr 148 2 (v8.map rPair))] : Fo)) (fun (r : (List Pair)) => ((.sl 0 : V), ([some (.arr 148 2 (r.map rPair))] : Fo))) ?_ ?_ (List.replicate (Int.toNat (a_0.length : Int)) (⟨(⟨#[]⟩ : ByteArray), (⟨#[]⟩ : ByteArray)⟩ : Pair)) _ (fun kk => by kernel_rfl) h
  · clear h
    rintro next_nx9 nx9 i7 hi_i7 hnx9 v8 r h
    try dsimp only at h
    have hn_i7 : i7 < 4611686018427387904 := by omega
    have hx_x10 := get_map rPair a_0 i7 hi_i7
    generalize a_0[i7] = x10 at h hx_x10
    have hd_i7 : (decide ((i7 : Int) < (a_0.length : Int))) = true := decide_eq_true (by omega)
    conv => lhs; whnf
    try rw [len_of (l := a_0) (r := rPair)]
    rw [hd_i7]
    conv => lhs; whnf
    try (rw [decide_eq_true hq_x10]; conv => lhs; whnf)
    rw [hx_x10]
    conv => lhs; whnf
    rw [hx_x10]
    conv => lhs; whnf
    obtain ⟨y11, h_y11, h⟩ := callK_inv h
    rw [cl_eq hcl (L_laws_toPair x10 h_y11)]
    rotate_left
    · show _ = _; kernel_rfl
    · show _ = _; kernel_rfl
    conv => lhs; whnf
    obtain ⟨x12, hq_x12, hx_x12', h⟩ := getK_inv h
    have hx_x12 := get_of (r := rPair) hx_x12'
    try (rw [decide_eq_true hq_x12]; conv => lhs; whnf)
    rw [hx_x12]
    conv => lhs; whnf
    rw [hx_x12]
    conv => lhs; whnf
    first | (rw [map_set_of (r := rPair) (l := v8) (x := x10) ?hh]; case hh => exact rfl) | skip
    rw [wrap_nat i7 (by have := hn_i7; omega)]
    exact hnx9 _ _ _ _ (fun kk => by kernel_rfl) h
  · clear h
    rintro next_nx9 v8 r h
    try dsimp only at h
    have hd_i7 : (decide ((a_0.length : Int) < (a_0.length : Int))) = false := decide_eq_false (by omega)
    conv => lhs; whnf
    try rw [len_of (l := a_0) (r := rPair)]
    rw [hd_i7]
    conv => lhs; whnf
    obtain rfl := Option.some.inj h; show _ = _; kernel_rfl


noncomputable def p_laws_toRecord (a_0 : Record) : Option Unit :=
  some ()

set_option maxHeartbeats 4000000 in
theorem L_laws_toRecord (a_0 : Record) {r : Unit} (h : p_laws_toRecord a_0 = some r) : callL E 185 [.agg [ST a_0.Key, IN a_0.Seq, IN a_0.Kind, ST a_0.Value, ST a_0.End]] ([] : Fo) = some (.agg [ST a_0.Key, IN a_0.Seq, IN a_0.Kind, ST a_0.Value, ST a_0.End], ([] : Fo)) := by
  unfold p_laws_toRecord at h
  refine callW (fu := Try.f185) rfl rfl rfl NN ?_
  intro lp cl hlp hcl
  conv => lhs; whnf
  obtain rfl := Option.some.inj h; show _ = _; kernel_rfl


noncomputable def p_laws_toRecordS (a_0 : List Record) : Option (List Record) :=
  grd (mkOk (a_0.length : Int) (a_0.length : Int) 64 5 = true) <|
  grd (a_0.length < 4611686018427387904) <|
  forK a_0 (fun (i7 : Nat) x10 (v8 : List Record) (nx9 : (List Record) → Option _) =>
    callK (p_laws_toRecord x10) fun y11 =>
    getK v8 (i7 : Int) fun x12 =>
    nx9 (v8.set (Int.toNat (i7 : Int)) x10)) (List.replicate (Int.toNat (a_0.length : Int)) (⟨(⟨#[]⟩ : ByteArray), 0, 0, (⟨#[]⟩ : ByteArray), (⟨#[]⟩ : ByteArray)⟩ : Record)) (fun (v8 : List Record) =>
    some v8)

set_option maxHeartbeats 4000000 in
theorem L_laws_toRecordS (a_0 : List Record) {r : (List Record)} (h : p_laws_toRecordS a_0 = some r) : callL E 96 [.d (.arr (a_0.map rRecord))] ([] : Fo) = some (.sl 0, ([some (.arr 145 5 (r.map rRecord))] : Fo)) := by
  unfold p_laws_toRecordS at h
  refine callW (fu := Try.f96) rfl rfl rfl NN ?_
  intro lp cl hlp hcl
  conv => lhs; whnf
  try rw [len_of (l := a_0) (r := rRecord)]
  obtain ⟨hg13, h⟩ := grd_inv h
  rw [mk_eq hg13 ?h1 ?h2 ?h3 ?h4]
  case h1 => exact rfl
  case h2 => exact rfl
  case h3 => exact rfl
  case h4 => exact rfl
  conv => lhs; whnf
  first | (rw [rep_of (r := rRecord) (x := (⟨(⟨#[]⟩ : ByteArray), 0, 0, (⟨#[]⟩ : ByteArray), (⟨#[]⟩ : ByteArray)⟩ : Record)) ?hh]; case hh => exact rfl) | skip
  obtain ⟨hl_i7, h⟩ := grd_inv h
  refine loop_for hlp (l := a_0) hl_i7 (fun (i7 : Nat) (v8 : List Record) => ([.d (.arr (a_0.map rRecord)), .dead, .dead, .sl 0, IN (i7 : Int)] ++ List.replicate 18 .dead : List V)) (fun (i7 : Nat) (v8 : List Record) => ([some (.arr 145 5 (v8.map rRecord))] : Fo)) (fun (r : (List Record)) => ((.sl 0 : V), ([some (.arr 145 5 (r.map rRecord))] : Fo))) ?_ ?_ (List.replicate (Int.toNat (a_0.length : Int)) (⟨(⟨#[]⟩ : ByteArray), 0, 0, (⟨#[]⟩ : ByteArray), (⟨#[]⟩ : ByteArray)⟩ : Record)) _ (fun kk => by kernel_rfl) h
  · clear h
    rintro next_nx9 nx9 i7 hi_i7 hnx9 v8 r h
    try dsimp only at h
    have hn_i7 : i7 < 4611686018427387904 := by omega
    have hx_x10 := get_map rRecord a_0 i7 hi_i7
    generalize a_0[i7] = x10 at h hx_x10
    have hd_i7 : (decide ((i7 : Int) < (a_0.length : Int))) = true := decide_eq_true (by omega)
    conv => lhs; whnf
    try rw [len_of (l := a_0) (r := rRecord)]
    rw [hd_i7]
    conv => lhs; whnf
    try (rw [decide_eq_true hq_x10]; conv => lhs; whnf)
    rw [hx_x10]
    conv => lhs; whnf
    rw [hx_x10]
    conv => lhs; whnf
    obtain ⟨y11, h_y11, h⟩ := callK_inv h
    rw [cl_eq hcl (L_laws_toRecord x10 h_y11)]
    rotate_left
    · show _ = _; kernel_rfl
    · show _ = _; kernel_rfl
    conv => lhs; whnf
    obtain ⟨x12, hq_x12, hx_x12', h⟩ := getK_inv h
    have hx_x12 := get_of (r := rRecord) hx_x12'
    try (rw [decide_eq_true hq_x12]; conv => lhs; whnf)
    rw [hx_x12]
    conv => lhs; whnf
    rw [hx_x12]
    conv => lhs; whnf
    first | (rw [map_set_of (r := rRecord) (l := v8) (x := x10) ?hh]; case hh => exact rfl) | skip
    rw [wrap_nat i7 (by have := hn_i7; omega)]
    exact hnx9 _ _ _ _ (fun kk => by kernel_rfl) h
  · clear h
    rintro next_nx9 v8 r h
    try dsimp only at h
    have hd_i7 : (decide ((a_0.length : Int) < (a_0.length : Int))) = false := decide_eq_false (by omega)
    conv => lhs; whnf
    try rw [len_of (l := a_0) (r := rRecord)]
    rw [hd_i7]
    conv => lhs; whnf
    obtain rfl := Option.some.inj h; show _ = _; kernel_rfl


noncomputable def p_laws_toRecordSS (a_0 : List (List Record)) : Option (List (List Record)) :=
  grd (mkOk (a_0.length : Int) (a_0.length : Int) 24 1 = true) <|
  grd (a_0.length < 4611686018427387904) <|
  forK a_0 (fun (i8 : Nat) x11 (v9 : List (List Record)) (nx10 : (List (List Record)) → Option _) =>
    callK (p_laws_toRecordS x11) fun y12 =>
    getK v9 (i8 : Int) fun x13 =>
    nx10 (v9.set (Int.toNat (i8 : Int)) y12)) (List.replicate (Int.toNat (a_0.length : Int)) ([] : List Record)) (fun (v9 : List (List Record)) =>
    grd (a_0.length = v9.length) <|
    some v9)

set_option maxHeartbeats 4000000 in
theorem L_laws_toRecordSS (a_0 : List (List Record)) {r : (List (List Record))} (h : p_laws_toRecordSS a_0 = some r) : callL E 18 [.d (.arr (a_0.map (rL rRecord)))] ([] : Fo) = some (.nsl 0, ([some (.nst ⟨143, 1, 0, 145, 5⟩ r.length (r.map (rL rRecord)))] : Fo)) := by
  unfold p_laws_toRecordSS at h
  refine callW (fu := Try.f18) rfl rfl rfl NN ?_
  intro lp cl hlp hcl
  conv => lhs; whnf
  try rw [len_of (l := a_0) (r := (rL rRecord))]
  obtain ⟨hg15, h⟩ := grd_inv h
  rw [mk_eq hg15 ?h1 ?h2 ?h3 ?h4]
  case h1 => exact rfl
  case h2 => exact rfl
  case h3 => exact rfl
  case h4 => exact rfl
  conv => lhs; whnf
  first | (rw [rep_of (r := (rL rRecord)) (x := ([] : List Record)) ?hh]; case hh => exact rfl) | skip
  obtain ⟨hl_i8, h⟩ := grd_inv h
  refine loop_for hlp (l := a_0) hl_i8 (fun (i8 : Nat) (v9 : List (List Record)) => ([.d (.arr (a_0.map (rL rRecord))), .dead, .dead, .nsl 0, IN (i8 : Int)] ++ List.replicate 18 .dead : List V)) (fun (i8 : Nat) (v9 : List (List Record)) => ([some (.nst ⟨143, 1, 0, 145, 5⟩ i8 (v9.map (rL rRecord)))] : Fo)) (fun (r : (List (List Record))) => ((.nsl 0 : V), ([some (.nst ⟨143, 1, 0, 145, 5⟩ r.length (r.map (rL rRecord)))] : Fo))) ?_ ?_ (List.replicate (Int.toNat (a_0.length : Int)) ([] : List Record)) _ (fun kk => by kernel_rfl) h
  · clear h
    rintro next_nx10 nx10 i8 hi_i8 hnx10 v9 r h
    try dsimp only at h
    have hn_i8 : i8 < 4611686018427387904 := by omega
    have hx_x11 := get_map (rL rRecord) a_0 i8 hi_i8
    generalize a_0[i8] = x11 at h hx_x11
    have hd_i8 : (decide ((i8 : Int) < (a_0.length : Int))) = true := decide_eq_true (by omega)
    conv => lhs; whnf
    try rw [len_of (l := a_0) (r := (rL rRecord))]
    rw [hd_i8]
    conv => lhs; whnf
    try (rw [decide_eq_true hq_x11]; conv => lhs; whnf)
    rw [hx_x11]
    conv => lhs; whnf
    rw [hx_x11]
    conv => lhs; whnf
    obtain ⟨y12, h_y12, h⟩ := callK_inv h
    rw [cl_eq hcl (L_laws_toRecordS x11 h_y12)]
    rotate_left
    · show _ = _; kernel_rfl
    · show _ = _; kernel_rfl
    conv => lhs; whnf
    obtain ⟨x13, hq_x13, hx_x13', h⟩ := getK_inv h
    have hx_x13 := get_of (r := (rL rRecord)) hx_x13'
    try (rw [decide_eq_true hq_x13]; conv => lhs; whnf)
    rw [hx_x13]
    conv => lhs; whnf
    rw [hx_x13]
    conv => lhs; whnf
    conv => lhs; whnf
    try (rw [beq_yes]; conv => lhs; whnf)
    try (rw [beq_toNat]; conv => lhs; whnf)
    first | (rw [map_set_of (r := (rL rRecord)) (l := v9) (x := y12) ?hh]; case hh => exact rfl) | skip
    rw [wrap_nat i8 (by have := hn_i8; omega)]
    exact hnx10 _ _ _ _ (fun kk => by kernel_rfl) h
  · clear h
    rintro next_nx10 v9 r h
    try dsimp only at h
    have hd_i8 : (decide ((a_0.length : Int) < (a_0.length : Int))) = false := decide_eq_false (by omega)
    conv => lhs; whnf
    try rw [len_of (l := a_0) (r := (rL rRecord))]
    rw [hd_i8]
    conv => lhs; whnf
    obtain ⟨hN14, h⟩ := grd_inv h; conv => lhs; whnf
    obtain rfl := Option.some.inj h
    try (conv => rhs; simp only [List.length_set, List.length_append, List.length_cons, List.length_nil, Nat.zero_add, ← hN14])
    show _ = _; kernel_rfl

noncomputable def p_spec_l17Key (a_0 : ByteArray) : Option Bool :=
  if (ByteArray.size a_0 : Int) ≥ 1 then
    some (decide ((ByteArray.size a_0 : Int) ≤ 8))
  else
    some false

set_option maxHeartbeats 4000000 in
theorem L_spec_l17Key (a_0 : ByteArray) {r : Bool} (h : p_spec_l17Key a_0 = some r) : callL E 264 [ST a_0] ([] : Fo) = some (BO r, ([] : Fo)) := by
  unfold p_spec_l17Key at h
  refine callW (fu := Try.f264) rfl rfl rfl NN ?_
  intro lp cl hlp hcl
  conv => lhs; whnf
  cases hb1 : (decide ((ByteArray.size a_0 : Int) ≥ 1))
  · replace h := ifF h (decF hb1); conv => lhs; whnf
    try (rw [hb1]; conv => lhs; whnf)
    try (rw [hb1]; conv => lhs; whnf)
    try (rw [hb1]; conv => lhs; whnf)
    obtain rfl := Option.some.inj h; show _ = _; kernel_rfl

  · replace h := ifT h (decT hb1); conv => lhs; whnf
    try (rw [hb1]; conv => lhs; whnf)
    try (rw [hb1]; conv => lhs; whnf)
    try (rw [hb1]; conv => lhs; whnf)
    obtain rfl := Option.some.inj h; show _ = _; kernel_rfl


noncomputable def p_spec_l24State (a_0 : List Pair) : Option Bool :=
  grd (a_0.length < 4611686018427387904) <|
  forK a_0 (fun (i10 : Nat) x12 (_ : Unit) (nx11 : Unit → Option _) =>
    callK (p_spec_l17Key x12.Key) fun y13 =>
    if y13 = true then
      if (ByteArray.size x12.Value : Int) > 16 then
        some false
      else
        if (i10 : Int) > 0 then
          getK a_0 (IntKind.i64.wrap ((i10 : Int) - 1)) fun x17 =>
          if (Op.bytesLess x17.Key.toList x12.Key.toList) = true then
            nx11 ()
          else
            some false
        else
          nx11 ()
    else
      some false) () (fun (_ : Unit) =>
    some true)

set_option maxHeartbeats 4000000 in
theorem L_spec_l24State (a_0 : List Pair) {r : Bool} (h : p_spec_l24State a_0 = some r) : callL E 182 [.d (.arr (a_0.map rPair))] ([] : Fo) = some (BO r, ([] : Fo)) := by
  unfold p_spec_l24State at h
  refine callW (fu := Try.f182) rfl rfl rfl NN ?_
  intro lp cl hlp hcl
  conv => lhs; whnf
  obtain ⟨hl_i10, h⟩ := grd_inv h
  refine loop_for hlp (l := a_0) hl_i10 (fun (i10 : Nat) (_ : Unit) => ([.d (.arr (a_0.map rPair)), .dead, .dead, IN (i10 : Int)] ++ List.replicate 40 .dead : List V)) (fun (i10 : Nat) (_ : Unit) => ([] : Fo)) (fun (r : Bool) => ((BO r : V), ([] : Fo))) ?_ ?_ () _ (fun kk => by kernel_rfl) h
  · clear h
    rintro next_nx11 nx11 i10 hi_i10 hnx11 ⟨⟩ r h
    try dsimp only at h
    have hn_i10 : i10 < 4611686018427387904 := by omega
    have hx_x12 := get_map rPair a_0 i10 hi_i10
    generalize a_0[i10] = x12 at h hx_x12
    have hd_i10 : (decide ((i10 : Int) < (a_0.length : Int))) = true := decide_eq_true (by omega)
    conv => lhs; whnf
    try rw [len_of (l := a_0) (r := rPair)]
    rw [hd_i10]
    conv => lhs; whnf
    try (rw [decide_eq_true hq_x12]; conv => lhs; whnf)
    rw [hx_x12]
    conv => lhs; whnf
    rw [hx_x12]
    conv => lhs; whnf
    obtain ⟨y13, h_y13, h⟩ := callK_inv h
    rw [cl_eq hcl (L_spec_l17Key x12.Key h_y13)]
    rotate_left
    · show _ = _; kernel_rfl
    · show _ = _; kernel_rfl
    conv => lhs; whnf
    cases hb14 : y13
    · replace h := ifF h (booF hb14); conv => lhs; whnf
      try (rw [hb14]; conv => lhs; whnf)
      try (rw [hb14]; conv => lhs; whnf)
      try (rw [hb14]; conv => lhs; whnf)
      try (rw [hb14]; conv => lhs; whnf)
      try (rw [hb14]; conv => lhs; whnf)
      try (rw [hb14]; conv => lhs; whnf)
      try (rw [hb14]; conv => lhs; whnf)
      obtain rfl := Option.some.inj h; show _ = _; kernel_rfl

    · replace h := ifT h hb14; conv => lhs; whnf
      try (rw [hb14]; conv => lhs; whnf)
      try (rw [hb14]; conv => lhs; whnf)
      try (rw [decide_eq_true hq_x12]; conv => lhs; whnf)
      rw [hx_x12]
      conv => lhs; whnf
      try (rw [hb14]; conv => lhs; whnf)
      try (rw [hb14]; conv => lhs; whnf)
      rw [hx_x12]
      conv => lhs; whnf
      try (rw [hb14]; conv => lhs; whnf)
      try (rw [hb14]; conv => lhs; whnf)
      try (rw [hb14]; conv => lhs; whnf)
      cases hb15 : (decide ((ByteArray.size x12.Value : Int) > 16))
      · replace h := ifF h (decF hb15); conv => lhs; whnf
        try (rw [hb15]; conv => lhs; whnf)
        try (rw [hb15]; conv => lhs; whnf)
        cases hb16 : (decide ((i10 : Int) > 0))
        · replace h := ifF h (decF hb16); conv => lhs; whnf
          try (rw [hb16]; conv => lhs; whnf)
          try (rw [hb16]; conv => lhs; whnf)
          try (rw [hb16]; conv => lhs; whnf)
          try (rw [hb16]; conv => lhs; whnf)
          try (rw [hb16]; conv => lhs; whnf)
          try (rw [hb16]; conv => lhs; whnf)
          try (rw [hb16]; conv => lhs; whnf)
          try (rw [hb16]; conv => lhs; whnf)
          try (rw [hb16]; conv => lhs; whnf)
          try (rw [hb16]; conv => lhs; whnf)
          try (rw [hb16]; conv => lhs; whnf)
          try (rw [hb15]; conv => lhs; whnf)
          try (rw [hb16]; conv => lhs; whnf)
          try (rw [hb15]; conv => lhs; whnf)
          rw [wrap_nat i10 (by have := hn_i10; omega)]
          exact hnx11 _ _ _ _ (fun kk => by kernel_rfl) h
        · replace h := ifT h (decT hb16); conv => lhs; whnf
          try (rw [hb16]; conv => lhs; whnf)
          try (rw [hb16]; conv => lhs; whnf)
          try (rw [hb16]; conv => lhs; whnf)
          obtain ⟨x17, hq_x17, hx_x17', h⟩ := getK_inv h
          have hx_x17 := get_of (r := rPair) hx_x17'
          try (rw [decide_eq_true hq_x17]; conv => lhs; whnf)
          rw [hx_x17]
          conv => lhs; whnf
          try (rw [hb16]; conv => lhs; whnf)
          try (rw [hb16]; conv => lhs; whnf)
          rw [hx_x17]
          conv => lhs; whnf
          try (rw [hb16]; conv => lhs; whnf)
          try (rw [hb16]; conv => lhs; whnf)
          try (rw [hb16]; conv => lhs; whnf)
          try (rw [decide_eq_true hq_x12]; conv => lhs; whnf)
          rw [hx_x12]
          conv => lhs; whnf
          try (rw [hb16]; conv => lhs; whnf)
          try (rw [hb16]; conv => lhs; whnf)
          rw [hx_x12]
          conv => lhs; whnf
          try (rw [hb16]; conv => lhs; whnf)
          try (rw [hb15]; conv => lhs; whnf)
          try (rw [hb16]; conv => lhs; whnf)
          try (rw [hb15]; conv => lhs; whnf)
          cases hb18 : (Op.bytesLess x17.Key.toList x12.Key.toList)
          · replace h := ifF h (booF hb18); conv => lhs; whnf
            obtain rfl := Option.some.inj h; show _ = _; kernel_rfl

          · replace h := ifT h hb18; conv => lhs; whnf
            rw [wrap_nat i10 (by have := hn_i10; omega)]
            exact hnx11 _ _ _ _ (fun kk => by kernel_rfl) h
      · replace h := ifT h (decT hb15); conv => lhs; whnf
        try (rw [hb15]; conv => lhs; whnf)
        try (rw [hb15]; conv => lhs; whnf)
        try (rw [hb15]; conv => lhs; whnf)
        try (rw [hb15]; conv => lhs; whnf)
        obtain rfl := Option.some.inj h; show _ = _; kernel_rfl

  · clear h
    rintro next_nx11 ⟨⟩ r h
    try dsimp only at h
    have hd_i10 : (decide ((a_0.length : Int) < (a_0.length : Int))) = false := decide_eq_false (by omega)
    conv => lhs; whnf
    try rw [len_of (l := a_0) (r := rPair)]
    rw [hd_i10]
    conv => lhs; whnf
    obtain rfl := Option.some.inj h; show _ = _; kernel_rfl


noncomputable def p_spec_l17Valid (a_0 : Record) : Option Bool :=
  callK (p_spec_l17Key a_0.Key) fun y1 =>
  if y1 = true then
    if (inR a_0.Seq 1 1000000) = true then
      if a_0.Kind = 1 then
        if (ByteArray.size a_0.Value : Int) ≤ 16 then
          some (a_0.End.toList == (⟨#[]⟩ : ByteArray).toList)
        else
          some false
      else
        if a_0.Kind = 2 then
          if (a_0.Value.toList == (⟨#[]⟩ : ByteArray).toList) = true then
            some (a_0.End.toList == (⟨#[]⟩ : ByteArray).toList)
          else
            some false
        else
          if a_0.Kind = 3 then
            if (a_0.Value.toList == (⟨#[]⟩ : ByteArray).toList) = true then
              callK (p_spec_l17Key a_0.End) fun y10 =>
              if y10 = true then
                some (Op.bytesLess a_0.Key.toList a_0.End.toList)
              else
                some false
            else
              some false
          else
            some false
    else
      some false
  else
    some false

set_option maxHeartbeats 4000000 in
theorem L_spec_l17Valid (a_0 : Record) {r : Bool} (h : p_spec_l17Valid a_0 = some r) : callL E 183 [.agg [ST a_0.Key, IN a_0.Seq, IN a_0.Kind, ST a_0.Value, ST a_0.End]] ([] : Fo) = some (BO r, ([] : Fo)) := by
  unfold p_spec_l17Valid at h
  refine callW (fu := Try.f183) rfl rfl rfl NN ?_
  intro lp cl hlp hcl
  conv => lhs; whnf
  obtain ⟨y1, h_y1, h⟩ := callK_inv h
  rw [cl_eq hcl (L_spec_l17Key a_0.Key h_y1)]
  rotate_left
  · show _ = _; kernel_rfl
  · show _ = _; kernel_rfl
  conv => lhs; whnf
  cases hb2 : y1
  · replace h := ifF h (booF hb2); conv => lhs; whnf
    try (rw [hb2]; conv => lhs; whnf)
    try (rw [hb2]; conv => lhs; whnf)
    try (rw [hb2]; conv => lhs; whnf)
    try (rw [hb2]; conv => lhs; whnf)
    obtain rfl := Option.some.inj h; show _ = _; kernel_rfl

  · replace h := ifT h hb2
    try rw [hb2] at h
    conv => lhs; whnf
    try (rw [hb2]; conv => lhs; whnf)
    try (rw [hb2]; conv => lhs; whnf)
    rw [cl_eq hcl (L_spec_l00In a_0.Seq 1 1000000 (pl_l00In a_0.Seq 1 1000000))]
    rotate_left
    · show _ = _; kernel_rfl
    · show _ = _; kernel_rfl
    conv => lhs; whnf
    try (rw [hb2]; conv => lhs; whnf)
    try (rw [hb2]; conv => lhs; whnf)
    cases hb3 : (inR a_0.Seq 1 1000000)
    · replace h := ifF h (booF hb3); conv => lhs; whnf
      obtain rfl := Option.some.inj h; show _ = _; kernel_rfl

    · replace h := ifT h hb3; conv => lhs; whnf
      cases hb4 : (a_0.Kind == 1)
      · replace h := ifF h (beqF hb4); conv => lhs; whnf
        cases hb6 : (a_0.Kind == 2)
        · replace h := ifF h (beqF hb6); conv => lhs; whnf
          cases hb8 : (a_0.Kind == 3)
          · replace h := ifF h (beqF hb8); conv => lhs; whnf
            obtain rfl := Option.some.inj h; show _ = _; kernel_rfl

          · replace h := ifT h (beqT hb8); conv => lhs; whnf
            cases hb9 : (a_0.Value.toList == (⟨#[]⟩ : ByteArray).toList)
            · replace h := ifF h (booF hb9); conv => lhs; whnf
              try (rw [hb9]; conv => lhs; whnf)
              try (rw [hb9]; conv => lhs; whnf)
              try (rw [hb9]; conv => lhs; whnf)
              obtain rfl := Option.some.inj h; show _ = _; kernel_rfl

            · replace h := ifT h hb9; conv => lhs; whnf
              try (rw [hb9]; conv => lhs; whnf)
              try (rw [hb9]; conv => lhs; whnf)
              obtain ⟨y10, h_y10, h⟩ := callK_inv h
              rw [cl_eq hcl (L_spec_l17Key a_0.End h_y10)]
              rotate_left
              · show _ = _; kernel_rfl
              · show _ = _; kernel_rfl
              conv => lhs; whnf
              try (rw [hb9]; conv => lhs; whnf)
              cases hb11 : y10
              · replace h := ifF h (booF hb11); conv => lhs; whnf
                try (rw [hb11]; conv => lhs; whnf)
                try (rw [hb11]; conv => lhs; whnf)
                try (rw [hb11]; conv => lhs; whnf)
                try (rw [hb11]; conv => lhs; whnf)
                try (rw [hb11]; conv => lhs; whnf)
                obtain rfl := Option.some.inj h; show _ = _; kernel_rfl

              · replace h := ifT h hb11; conv => lhs; whnf
                try (rw [hb11]; conv => lhs; whnf)
                try (rw [hb11]; conv => lhs; whnf)
                try (rw [hb11]; conv => lhs; whnf)
                try (rw [hb11]; conv => lhs; whnf)
                try (rw [hb11]; conv => lhs; whnf)
                obtain rfl := Option.some.inj h; show _ = _; kernel_rfl

        · replace h := ifT h (beqT hb6); conv => lhs; whnf
          cases hb7 : (a_0.Value.toList == (⟨#[]⟩ : ByteArray).toList)
          · replace h := ifF h (booF hb7); conv => lhs; whnf
            try (rw [hb7]; conv => lhs; whnf)
            try (rw [hb7]; conv => lhs; whnf)
            try (rw [hb7]; conv => lhs; whnf)
            obtain rfl := Option.some.inj h; show _ = _; kernel_rfl

          · replace h := ifT h hb7; conv => lhs; whnf
            try (rw [hb7]; conv => lhs; whnf)
            try (rw [hb7]; conv => lhs; whnf)
            try (rw [hb7]; conv => lhs; whnf)
            obtain rfl := Option.some.inj h; show _ = _; kernel_rfl

      · replace h := ifT h (beqT hb4); conv => lhs; whnf
        cases hb5 : (decide ((ByteArray.size a_0.Value : Int) ≤ 16))
        · replace h := ifF h (decF hb5); conv => lhs; whnf
          try (rw [hb5]; conv => lhs; whnf)
          try (rw [hb5]; conv => lhs; whnf)
          try (rw [hb5]; conv => lhs; whnf)
          obtain rfl := Option.some.inj h; show _ = _; kernel_rfl

        · replace h := ifT h (decT hb5); conv => lhs; whnf
          try (rw [hb5]; conv => lhs; whnf)
          try (rw [hb5]; conv => lhs; whnf)
          try (rw [hb5]; conv => lhs; whnf)
          obtain rfl := Option.some.inj h; show _ = _; kernel_rfl


noncomputable def p_spec_l17Affects (a_0 : Record) (a_1 : ByteArray) : Option Bool :=
  if a_0.Kind = 3 then
    if ((Op.bytesLess a_0.Key.toList a_1.toList) || (a_0.Key.toList == a_1.toList)) = true then
      some (Op.bytesLess a_1.toList a_0.End.toList)
    else
      some false
  else
    some (a_0.Key.toList == a_1.toList)

set_option maxHeartbeats 4000000 in
theorem L_spec_l17Affects (a_0 : Record) (a_1 : ByteArray) {r : Bool} (h : p_spec_l17Affects a_0 a_1 = some r) : callL E 184 [.agg [ST a_0.Key, IN a_0.Seq, IN a_0.Kind, ST a_0.Value, ST a_0.End], ST a_1] ([] : Fo) = some (BO r, ([] : Fo)) := by
  unfold p_spec_l17Affects at h
  refine callW (fu := Try.f184) rfl rfl rfl NN ?_
  intro lp cl hlp hcl
  conv => lhs; whnf
  cases hb1 : (a_0.Kind == 3)
  · replace h := ifF h (beqF hb1); conv => lhs; whnf
    obtain rfl := Option.some.inj h; show _ = _; kernel_rfl

  · replace h := ifT h (beqT hb1); conv => lhs; whnf
    cases hb2 : ((Op.bytesLess a_0.Key.toList a_1.toList) || (a_0.Key.toList == a_1.toList))
    · replace h := ifF h (booF hb2); conv => lhs; whnf
      try (rw [hb2]; conv => lhs; whnf)
      try (rw [hb2]; conv => lhs; whnf)
      try (rw [hb2]; conv => lhs; whnf)
      try (rw [hb2]; conv => lhs; whnf)
      obtain rfl := Option.some.inj h; show _ = _; kernel_rfl

    · replace h := ifT h hb2; conv => lhs; whnf
      try (rw [hb2]; conv => lhs; whnf)
      try (rw [hb2]; conv => lhs; whnf)
      try (rw [hb2]; conv => lhs; whnf)
      try (rw [hb2]; conv => lhs; whnf)
      obtain rfl := Option.some.inj h; show _ = _; kernel_rfl


noncomputable def p_spec_ApplyRecord (a_0 : List Pair) (a_1 : Record) : Option ((List Pair) × Int) :=
  callK (p_spec_l24State a_0) fun y1 =>
  if y1 = true then
    callK (p_spec_l17Valid a_1) fun y3 =>
    if y3 = true then
      grd (a_0.length < 4611686018427387904) <|
      forK a_0 (fun (i19 : Nat) x23 ((v20, v21) : (Bool × (List Pair))) (nx22 : (Bool × (List Pair)) → Option _) =>
        if v20 = true then
          callK (p_spec_l17Affects a_1 x23.Key) fun y25 =>
          if y25 = true then
            nx22 (true, v21)
          else
            grd (appOk (v21.length + 1) 32 = true) <|
            nx22 (true, (v21 ++ ([x23] : List Pair)))
        else
          if (Op.bytesLess a_1.Key.toList x23.Key.toList) = true then
            grd (appOk (v21.length + 1) 32 = true) <|
            callK (p_spec_l17Affects a_1 x23.Key) fun y28 =>
            if y28 = true then
              nx22 (true, (v21 ++ ([(⟨a_1.Key, a_1.Value⟩ : Pair)] : List Pair)))
            else
              grd (appOk ((v21 ++ ([(⟨a_1.Key, a_1.Value⟩ : Pair)] : List Pair)).length + 1) 32 = true) <|
              nx22 (true, ((v21 ++ ([(⟨a_1.Key, a_1.Value⟩ : Pair)] : List Pair)) ++ ([x23] : List Pair)))
          else
            callK (p_spec_l17Affects a_1 x23.Key) fun y30 =>
            if y30 = true then
              nx22 (false, v21)
            else
              grd (appOk (v21.length + 1) 32 = true) <|
              nx22 (false, (v21 ++ ([x23] : List Pair)))) ((a_1.Kind != 1), ([] : List Pair)) (fun ((v20, v21) : (Bool × (List Pair))) =>
        if v20 = true then
          some (v21, 0)
        else
          grd (appOk (v21.length + 1) 32 = true) <|
          some ((v21 ++ ([(⟨a_1.Key, a_1.Value⟩ : Pair)] : List Pair)), 0))
    else
      some (([] : List Pair), 1)
  else
    some (([] : List Pair), 1)

set_option maxHeartbeats 4000000 in
theorem L_spec_ApplyRecord (a_0 : List Pair) (a_1 : Record) {r : ((List Pair) × Int)} (h : p_spec_ApplyRecord a_0 a_1 = some r) : callL E 94 [.d (.arr (a_0.map rPair)), .agg [ST a_1.Key, IN a_1.Seq, IN a_1.Kind, ST a_1.Value, ST a_1.End]] ([] : Fo) = some (.tup [.d (.arr (r.1.map rPair)), IN r.2], ([] : Fo)) := by
  unfold p_spec_ApplyRecord at h
  refine callW (fu := Try.f94) rfl rfl rfl NN ?_
  intro lp cl hlp hcl
  conv => lhs; whnf
  obtain ⟨y1, h_y1, h⟩ := callK_inv h
  rw [cl_eq hcl (L_spec_l24State a_0 h_y1)]
  rotate_left
  · show _ = _; kernel_rfl
  · show _ = _; kernel_rfl
  conv => lhs; whnf
  cases hb2 : y1
  · replace h := ifF h (booF hb2); conv => lhs; whnf
    try (rw [hb2]; conv => lhs; whnf)
    try (rw [hb2]; conv => lhs; whnf)
    try (rw [hb2]; conv => lhs; whnf)
    obtain rfl := Option.some.inj h; show _ = _; kernel_rfl

  · replace h := ifT h hb2; conv => lhs; whnf
    try (rw [hb2]; conv => lhs; whnf)
    obtain ⟨y3, h_y3, h⟩ := callK_inv h
    rw [cl_eq hcl (L_spec_l17Valid a_1 h_y3)]
    rotate_left
    · show _ = _; kernel_rfl
    · show _ = _; kernel_rfl
    conv => lhs; whnf
    try (rw [hb2]; conv => lhs; whnf)
    try (rw [hb2]; conv => lhs; whnf)
    cases hb4 : y3
    · replace h := ifF h (booF hb4); conv => lhs; whnf
      obtain rfl := Option.some.inj h; show _ = _; kernel_rfl

    · replace h := ifT h hb4
      try rw [hb4] at h
      conv => lhs; whnf
      obtain ⟨hl_i19, h⟩ := grd_inv h
      refine loop_for hlp (l := a_0) hl_i19 (fun (i19 : Nat) ((v20, v21) : (Bool × (List Pair))) => ([.d (.arr (a_0.map rPair)), .dead, .dead, .bp 0 0, .dead, .dead, .sl 1, BO v20, IN (i19 : Int)] ++ List.replicate 65 .dead : List V)) (fun (i19 : Nat) ((v20, v21) : (Bool × (List Pair))) => ([some (.box [ST a_1.Key, IN a_1.Seq, IN a_1.Kind, ST a_1.Value, ST a_1.End]), some (.arr 148 2 (v21.map rPair))] : Fo)) (fun (r : ((List Pair) × Int)) => ((.tup [.d (.arr (r.1.map rPair)), IN r.2] : V), ([] : Fo))) ?_ ?_ ((a_1.Kind != 1), ([] : List Pair)) _ (fun kk => by kernel_rfl) h
      · clear h
        rintro next_nx22 nx22 i19 hi_i19 hnx22 ⟨v20, v21⟩ r h
        try dsimp only at h
        have hn_i19 : i19 < 4611686018427387904 := by omega
        have hx_x23 := get_map rPair a_0 i19 hi_i19
        generalize a_0[i19] = x23 at h hx_x23
        have hd_i19 : (decide ((i19 : Int) < (a_0.length : Int))) = true := decide_eq_true (by omega)
        conv => lhs; whnf
        try rw [len_of (l := a_0) (r := rPair)]
        rw [hd_i19]
        conv => lhs; whnf
        cases hb24 : v20
        · replace h := ifF h (booF hb24); conv => lhs; whnf
          try (rw [hb24]; conv => lhs; whnf)
          try (rw [hb24]; conv => lhs; whnf)
          try (rw [hb24]; conv => lhs; whnf)
          try (rw [hb24]; conv => lhs; whnf)
          try (rw [decide_eq_true hq_x23]; conv => lhs; whnf)
          rw [hx_x23]
          conv => lhs; whnf
          try (rw [hb24]; conv => lhs; whnf)
          try (rw [hb24]; conv => lhs; whnf)
          rw [hx_x23]
          conv => lhs; whnf
          try (rw [hb24]; conv => lhs; whnf)
          try (rw [hb24]; conv => lhs; whnf)
          cases hb27 : (Op.bytesLess a_1.Key.toList x23.Key.toList)
          · replace h := ifF h (booF hb27); conv => lhs; whnf
            try (rw [decide_eq_true hq_x23]; conv => lhs; whnf)
            rw [hx_x23]
            conv => lhs; whnf
            rw [hx_x23]
            conv => lhs; whnf
            obtain ⟨y30, h_y30, h⟩ := callK_inv h
            rw [cl_eq hcl (L_spec_l17Affects a_1 x23.Key h_y30)]
            rotate_left
            · show _ = _; kernel_rfl
            · show _ = _; kernel_rfl
            conv => lhs; whnf
            cases hb31 : y30
            · replace h := ifF h (booF hb31); conv => lhs; whnf
              try (rw [decide_eq_true hq_x23]; conv => lhs; whnf)
              rw [hx_x23]
              conv => lhs; whnf
              rw [hx_x23]
              conv => lhs; whnf
              obtain ⟨hg33, h⟩ := grd_inv h
              rw [app_eq hg33 ?h1 ?h2]
              case h1 => first | exact rfl | (simp only [List.length_map, List.length_cons, List.length_nil]; done) | (rw [List.length_map]; rfl)
              case h2 => exact rfl
              conv => lhs; whnf
              first | (rw [map_app_of (r := rPair) (l := v21) (m := ([x23] : List Pair)) ?hh]; case hh => exact rfl) | skip
              rw [wrap_nat i19 (by have := hn_i19; omega)]
              exact hnx22 _ _ _ _ (fun kk => by kernel_rfl) h
            · replace h := ifT h hb31; conv => lhs; whnf
              rw [wrap_nat i19 (by have := hn_i19; omega)]
              exact hnx22 _ _ _ _ (fun kk => by kernel_rfl) h
          · replace h := ifT h hb27; conv => lhs; whnf
            obtain ⟨hg34, h⟩ := grd_inv h
            rw [app_eq hg34 ?h1 ?h2]
            case h1 => first | exact rfl | (simp only [List.length_map, List.length_cons, List.length_nil]; done) | (rw [List.length_map]; rfl)
            case h2 => exact rfl
            conv => lhs; whnf
            first | (rw [map_app_of (r := rPair) (l := v21) (m := ([(⟨a_1.Key, a_1.Value⟩ : Pair)] : List Pair)) ?hh]; case hh => exact rfl) | skip
            try (rw [decide_eq_true hq_x23]; conv => lhs; whnf)
            rw [hx_x23]
            conv => lhs; whnf
            rw [hx_x23]
            conv => lhs; whnf
            obtain ⟨y28, h_y28, h⟩ := callK_inv h
            rw [cl_eq hcl (L_spec_l17Affects a_1 x23.Key h_y28)]
            rotate_left
            · show _ = _; kernel_rfl
            · show _ = _; kernel_rfl
            conv => lhs; whnf
            cases hb29 : y28
            · replace h := ifF h (booF hb29); conv => lhs; whnf
              try (rw [decide_eq_true hq_x23]; conv => lhs; whnf)
              rw [hx_x23]
              conv => lhs; whnf
              rw [hx_x23]
              conv => lhs; whnf
              obtain ⟨hg35, h⟩ := grd_inv h
              rw [app_eq hg35 ?h1 ?h2]
              case h1 => first | exact rfl | (simp only [List.length_map, List.length_cons, List.length_nil]; done) | (rw [List.length_map]; rfl)
              case h2 => exact rfl
              conv => lhs; whnf
              first | (rw [map_app_of (r := rPair) (l := (v21 ++ ([(⟨a_1.Key, a_1.Value⟩ : Pair)] : List Pair))) (m := ([x23] : List Pair)) ?hh]; case hh => exact rfl) | skip
              rw [wrap_nat i19 (by have := hn_i19; omega)]
              exact hnx22 _ _ _ _ (fun kk => by kernel_rfl) h
            · replace h := ifT h hb29; conv => lhs; whnf
              rw [wrap_nat i19 (by have := hn_i19; omega)]
              exact hnx22 _ _ _ _ (fun kk => by kernel_rfl) h
        · replace h := ifT h hb24; conv => lhs; whnf
          try (rw [hb24]; conv => lhs; whnf)
          try (rw [hb24]; conv => lhs; whnf)
          try (rw [hb24]; conv => lhs; whnf)
          try (rw [hb24]; conv => lhs; whnf)
          try (rw [hb24]; conv => lhs; whnf)
          try (rw [hb24]; conv => lhs; whnf)
          try (rw [hb24]; conv => lhs; whnf)
          try (rw [hb24]; conv => lhs; whnf)
          try (rw [decide_eq_true hq_x23]; conv => lhs; whnf)
          rw [hx_x23]
          conv => lhs; whnf
          rw [hx_x23]
          conv => lhs; whnf
          obtain ⟨y25, h_y25, h⟩ := callK_inv h
          rw [cl_eq hcl (L_spec_l17Affects a_1 x23.Key h_y25)]
          rotate_left
          · show _ = _; kernel_rfl
          · show _ = _; kernel_rfl
          conv => lhs; whnf
          cases hb26 : y25
          · replace h := ifF h (booF hb26); conv => lhs; whnf
            try (rw [decide_eq_true hq_x23]; conv => lhs; whnf)
            rw [hx_x23]
            conv => lhs; whnf
            rw [hx_x23]
            conv => lhs; whnf
            obtain ⟨hg36, h⟩ := grd_inv h
            rw [app_eq hg36 ?h1 ?h2]
            case h1 => first | exact rfl | (simp only [List.length_map, List.length_cons, List.length_nil]; done) | (rw [List.length_map]; rfl)
            case h2 => exact rfl
            conv => lhs; whnf
            first | (rw [map_app_of (r := rPair) (l := v21) (m := ([x23] : List Pair)) ?hh]; case hh => exact rfl) | skip
            rw [wrap_nat i19 (by have := hn_i19; omega)]
            exact hnx22 _ _ _ _ (fun kk => by kernel_rfl) h
          · replace h := ifT h hb26; conv => lhs; whnf
            rw [wrap_nat i19 (by have := hn_i19; omega)]
            exact hnx22 _ _ _ _ (fun kk => by kernel_rfl) h
      · clear h
        rintro next_nx22 ⟨v20, v21⟩ r h
        try dsimp only at h
        have hd_i19 : (decide ((a_0.length : Int) < (a_0.length : Int))) = false := decide_eq_false (by omega)
        conv => lhs; whnf
        try rw [len_of (l := a_0) (r := rPair)]
        rw [hd_i19]
        conv => lhs; whnf
        cases hb32 : v20
        · replace h := ifF h (booF hb32); conv => lhs; whnf
          obtain ⟨hg37, h⟩ := grd_inv h
          rw [app_eq hg37 ?h1 ?h2]
          case h1 => first | exact rfl | (simp only [List.length_map, List.length_cons, List.length_nil]; done) | (rw [List.length_map]; rfl)
          case h2 => exact rfl
          conv => lhs; whnf
          first | (rw [map_app_of (r := rPair) (l := v21) (m := ([(⟨a_1.Key, a_1.Value⟩ : Pair)] : List Pair)) ?hh]; case hh => exact rfl) | skip
          obtain rfl := Option.some.inj h; show _ = _; kernel_rfl

        · replace h := ifT h hb32; conv => lhs; whnf
          obtain rfl := Option.some.inj h; show _ = _; kernel_rfl


noncomputable def p_spec_StatesAfter (a_0 : List Pair) (a_1 : List (List Record)) : Option (List (List Pair)) :=
  grd (appOk (0 + a_0.length) 32 = true) <|
  grd (appOk (0 + a_0.length) 32 = true) <|
  grd (a_1.length < 4611686018427387904) <|
  forK a_1 (fun (i13 : Nat) x17 ((v14, v15) : ((List Pair) × (List (List Pair)))) (nx16 : ((List Pair) × (List (List Pair))) → Option _) =>
    grd ((x17.length : Int) < 4611686018427387904) <|
    forI (x17.length : Int) (fun (i24 : Nat) (v25 : List Pair) (nx26 : (List Pair) → Option _) =>
      getK x17 (i24 : Int) fun x27 =>
      callK (p_spec_ApplyRecord v25 (⟨x27.Key, 1, x27.Kind, x27.Value, x27.End⟩ : Record)) fun y28 =>
      if ¬ y28.2 = 0 then
        some ([] : List (List Pair))
      else
        nx26 y28.1) v14 (fun (v25 : List Pair) =>
      grd (appOk (0 + v25.length) 32 = true) <|
      grd (appOk (v15.length + 1) 24 = true) <|
      nx16 (v25, (v15 ++ ([v25] : List (List Pair)))))) (a_0, ([a_0] : List (List Pair))) (fun ((v14, v15) : ((List Pair) × (List (List Pair)))) =>
    some v15)

set_option maxHeartbeats 4000000 in
theorem L_spec_StatesAfter (a_0 : List Pair) (a_1 : List (List Record)) {r : (List (List Pair))} (h : p_spec_StatesAfter a_0 a_1 = some r) : callL E 16 [.d (.arr (a_0.map rPair)), .d (.arr (a_1.map (rL rRecord)))] ([] : Fo) = some (.d (.arr (r.map (rL rPair))), ([] : Fo)) := by
  unfold p_spec_StatesAfter at h
  refine callW (fu := Try.f16) rfl rfl rfl NN ?_
  intro lp cl hlp hcl
  conv => lhs; whnf
  obtain ⟨hg30, h⟩ := grd_inv h
  rw [app_eq hg30 ?h1 ?h2]
  case h1 => first | exact rfl | (simp only [List.length_map, List.length_cons, List.length_nil]; done) | (rw [List.length_map]; rfl)
  case h2 => exact rfl
  conv => lhs; whnf
  rw [allLen_map rPair _ rPair_len]
  conv => lhs; whnf
  first | (rw [nil_app_of (r := rPair) (m := a_0) ?hh]; case hh => exact rfl) | skip
  obtain ⟨hg31, h⟩ := grd_inv h
  rw [app_eq hg31 ?h1 ?h2]
  case h1 => first | exact rfl | (simp only [List.length_map, List.length_cons, List.length_nil]; done) | (rw [List.length_map]; rfl)
  case h2 => exact rfl
  conv => lhs; whnf
  rw [allLen_map rPair _ rPair_len]
  conv => lhs; whnf
  first | (rw [nil_app_of (r := rPair) (m := a_0) ?hh]; case hh => exact rfl) | skip
  obtain ⟨hl_i13, h⟩ := grd_inv h
  refine loop_for hlp (l := a_1) hl_i13 (fun (i13 : Nat) ((v14, v15) : ((List Pair) × (List (List Pair)))) => ([.dead, .d (.arr (a_1.map (rL rRecord))), .dead, .dead, .dead, .nsl 0, .d (.arr (v14.map rPair)), IN (i13 : Int)] ++ List.replicate 51 .dead : List V)) (fun (i13 : Nat) ((v14, v15) : ((List Pair) × (List (List Pair)))) => ([some (.nst ⟨28, 1, 0, 148, 2⟩ v15.length (v15.map (rL rPair)))] : Fo)) (fun (r : (List (List Pair))) => ((.d (.arr (r.map (rL rPair))) : V), ([] : Fo))) ?_ ?_ (a_0, ([a_0] : List (List Pair))) _ (fun kk => by kernel_rfl) h
  · clear h
    rintro next_nx16 nx16 i13 hi_i13 hnx16 ⟨v14, v15⟩ r h
    try dsimp only at h
    have hn_i13 : i13 < 4611686018427387904 := by omega
    have hx_x17 := get_map (rL rRecord) a_1 i13 hi_i13
    generalize a_1[i13] = x17 at h hx_x17
    have hd_i13 : (decide ((i13 : Int) < (a_1.length : Int))) = true := decide_eq_true (by omega)
    conv => lhs; whnf
    try rw [len_of (l := a_1) (r := (rL rRecord))]
    rw [hd_i13]
    conv => lhs; whnf
    obtain ⟨hl_i24, h⟩ := grd_inv h
    refine loop_forI hlp (n := (x17.length : Int)) hl_i24 (fun (i24 : Nat) (v25 : List Pair) => ([.dead, .d (.arr (a_1.map (rL rRecord))), .dead, .dead, .dead, .nsl 0, .d (.arr (v25.map rPair)), IN (i13 : Int), IN (i24 : Int)] ++ List.replicate 50 .dead : List V)) (fun (i24 : Nat) (v25 : List Pair) => ([some (.nst ⟨28, 1, 0, 148, 2⟩ v15.length (v15.map (rL rPair)))] : Fo)) (fun (r : (List (List Pair))) => ((.d (.arr (r.map (rL rPair))) : V), ([] : Fo))) ?_ ?_ v14 _ (fun kk => by kernel_rfl) h
    · clear h
      rintro next_nx26 nx26 i24 hi_i24 hnx26 v25 r h
      try dsimp only at h
      have hn_i24 : i24 < 4611686018427387904 := by omega
      have hd_i24 : (decide ((i24 : Int) < (x17.length : Int))) = true := decide_eq_true (by omega)
      conv => lhs; whnf
      try (rw [decide_eq_true hq_x17]; conv => lhs; whnf)
      rw [hx_x17]
      conv => lhs; whnf
      rw [hx_x17]
      conv => lhs; whnf
      try rw [len_of (l := x17) (r := rRecord)]
      rw [hd_i24]
      conv => lhs; whnf
      try (rw [decide_eq_true hq_x17]; conv => lhs; whnf)
      rw [hx_x17]
      conv => lhs; whnf
      rw [hx_x17]
      conv => lhs; whnf
      obtain ⟨x27, hq_x27, hx_x27', h⟩ := getK_inv h
      have hx_x27 := get_of (r := rRecord) hx_x27'
      try (rw [decide_eq_true hq_x27]; conv => lhs; whnf)
      rw [hx_x27]
      conv => lhs; whnf
      rw [hx_x27]
      conv => lhs; whnf
      obtain ⟨y28, h_y28, h⟩ := callK_inv h
      rw [cl_eq hcl (L_spec_ApplyRecord v25 (⟨x27.Key, 1, x27.Kind, x27.Value, x27.End⟩ : Record) h_y28)]
      rotate_left
      · show _ = _; kernel_rfl
      · show _ = _; kernel_rfl
      conv => lhs; whnf
      cases hb29 : (y28.2 != 0)
      · replace h := ifF h ((fun h => not_not_intro (bneF h)) hb29); conv => lhs; whnf
        rw [wrap_nat i24 (by have := hn_i24; omega)]
        exact hnx26 _ _ _ _ (fun kk => by kernel_rfl) h
      · replace h := ifT h (bneT hb29); conv => lhs; whnf
        obtain rfl := Option.some.inj h; show _ = _; kernel_rfl

    · clear h
      rintro next_nx26 v25 r h
      try dsimp only at h
      have hd_i24 : (decide (((Int.toNat (x17.length : Int)) : Int) < (x17.length : Int))) = false := decide_eq_false (by omega)
      conv => lhs; whnf
      try (rw [decide_eq_true hq_x17]; conv => lhs; whnf)
      rw [hx_x17]
      conv => lhs; whnf
      rw [hx_x17]
      conv => lhs; whnf
      try rw [len_of (l := x17) (r := rRecord)]
      rw [hd_i24]
      conv => lhs; whnf
      obtain ⟨hg32, h⟩ := grd_inv h
      rw [app_eq hg32 ?h1 ?h2]
      case h1 => first | exact rfl | (simp only [List.length_map, List.length_cons, List.length_nil]; done) | (rw [List.length_map]; rfl)
      case h2 => exact rfl
      conv => lhs; whnf
      rw [allLen_map rPair _ rPair_len]
      conv => lhs; whnf
      first | (rw [nil_app_of (r := rPair) (m := v25) ?hh]; case hh => exact rfl) | skip
      conv => lhs; whnf
      try (rw [beq_len (n := v15.length) (l := v15) (by simp only [List.length_set, List.length_append, List.length_cons, List.length_nil, Nat.zero_add])]; conv => lhs; whnf)
      obtain ⟨hg33, h⟩ := grd_inv h
      rw [app_eq hg33 ?h1 ?h2]
      case h1 => first | exact rfl | (rw [List.length_map]; done) | (rw [List.length_map]; rfl)
      case h2 => exact rfl
      conv => lhs; whnf
      first | (rw [map_app_of (r := (rL rPair)) (l := v15) (m := ([v25] : List (List Pair))) ?hh]; case hh => exact rfl) | skip
      rw [wrap_nat i13 (by have := hn_i13; omega)]
      exact hnx16 _ _ _ _ (fun kk => by (try simp only [List.length_set, List.length_append, List.length_cons, List.length_nil, Nat.zero_add]); kernel_rfl) h
  · clear h
    rintro next_nx16 ⟨v14, v15⟩ r h
    try dsimp only at h
    have hd_i13 : (decide ((a_1.length : Int) < (a_1.length : Int))) = false := decide_eq_false (by omega)
    conv => lhs; whnf
    try rw [len_of (l := a_1) (r := (rL rRecord))]
    rw [hd_i13]
    conv => lhs; whnf
    obtain rfl := Option.some.inj h; show _ = _; kernel_rfl


noncomputable def p_impl_ValidKey (a_0 : ByteArray) : Option Bool :=
  some (inR (ByteArray.size a_0 : Int) 1 8)

set_option maxHeartbeats 4000000 in
theorem L_impl_ValidKey (a_0 : ByteArray) {r : Bool} (h : p_impl_ValidKey a_0 = some r) : callL E 265 [ST a_0] ([] : Fo) = some (BO r, ([] : Fo)) := by
  unfold p_impl_ValidKey at h
  refine callW (fu := Try.f265) rfl rfl rfl NN ?_
  intro lp cl hlp hcl
  conv => lhs; whnf
  rw [cl_eq hcl (L_impl_within (ByteArray.size a_0 : Int) 1 8 (pl_within (ByteArray.size a_0 : Int) 1 8))]
  rotate_left
  · show _ = _; kernel_rfl
  · show _ = _; kernel_rfl
  conv => lhs; whnf
  obtain rfl := Option.some.inj h; show _ = _; kernel_rfl


noncomputable def p_impl_pairsOk (a_0 : List Pair) : Option Bool :=
  grd (a_0.length < 4611686018427387904) <|
  forK a_0 (fun (i10 : Nat) x12 (_ : Unit) (nx11 : Unit → Option _) =>
    callK (p_impl_ValidKey x12.Key) fun y13 =>
    if y13 = true then
      if (ByteArray.size x12.Value : Int) > 16 then
        some false
      else
        if (i10 : Int) > 0 then
          getK a_0 (IntKind.i64.wrap ((i10 : Int) - 1)) fun x17 =>
          if ((Op.bytesLess x12.Key.toList x17.Key.toList) || (x12.Key.toList == x17.Key.toList)) = true then
            some false
          else
            nx11 ()
        else
          nx11 ()
    else
      some false) () (fun (_ : Unit) =>
    some true)

set_option maxHeartbeats 4000000 in
theorem L_impl_pairsOk (a_0 : List Pair) {r : Bool} (h : p_impl_pairsOk a_0 = some r) : callL E 186 [.d (.arr (a_0.map rPair))] ([] : Fo) = some (BO r, ([] : Fo)) := by
  unfold p_impl_pairsOk at h
  refine callW (fu := Try.f186) rfl rfl rfl NN ?_
  intro lp cl hlp hcl
  conv => lhs; whnf
  try rw [len_of (l := a_0) (r := rPair)]
  obtain ⟨hl_i10, h⟩ := grd_inv h
  refine loop_for hlp (l := a_0) hl_i10 (fun (i10 : Nat) (_ : Unit) => ([.d (.arr (a_0.map rPair)), .dead, .dead, .dead, .dead, .d (.arr (a_0.map rPair)), IN (a_0.length : Int), IN (i10 : Int)] ++ List.replicate 30 .dead : List V)) (fun (i10 : Nat) (_ : Unit) => ([] : Fo)) (fun (r : Bool) => ((BO r : V), ([] : Fo))) ?_ ?_ () _ (fun kk => by kernel_rfl) h
  · clear h
    rintro next_nx11 nx11 i10 hi_i10 hnx11 ⟨⟩ r h
    try dsimp only at h
    have hn_i10 : i10 < 4611686018427387904 := by omega
    have hx_x12 := get_map rPair a_0 i10 hi_i10
    generalize a_0[i10] = x12 at h hx_x12
    have hd_i10 : (decide ((i10 : Int) < (a_0.length : Int))) = true := decide_eq_true (by omega)
    conv => lhs; whnf
    rw [hd_i10]
    conv => lhs; whnf
    try (rw [decide_eq_true hq_x12]; conv => lhs; whnf)
    rw [hx_x12]
    conv => lhs; whnf
    rw [hx_x12]
    conv => lhs; whnf
    obtain ⟨y13, h_y13, h⟩ := callK_inv h
    rw [cl_eq hcl (L_impl_ValidKey x12.Key h_y13)]
    rotate_left
    · show _ = _; kernel_rfl
    · show _ = _; kernel_rfl
    conv => lhs; whnf
    cases hb14 : y13
    · replace h := ifF h (booF hb14); conv => lhs; whnf
      try (rw [hb14]; conv => lhs; whnf)
      try (rw [hb14]; conv => lhs; whnf)
      try (rw [hb14]; conv => lhs; whnf)
      try (rw [hb14]; conv => lhs; whnf)
      obtain rfl := Option.some.inj h; show _ = _; kernel_rfl

    · replace h := ifT h hb14; conv => lhs; whnf
      try (rw [hb14]; conv => lhs; whnf)
      try (rw [hb14]; conv => lhs; whnf)
      try (rw [hb14]; conv => lhs; whnf)
      try (rw [hb14]; conv => lhs; whnf)
      cases hb15 : (decide ((ByteArray.size x12.Value : Int) > 16))
      · replace h := ifF h (decF hb15); conv => lhs; whnf
        try (rw [hb15]; conv => lhs; whnf)
        try (rw [hb15]; conv => lhs; whnf)
        cases hb16 : (decide ((i10 : Int) > 0))
        · replace h := ifF h (decF hb16); conv => lhs; whnf
          try (rw [hb16]; conv => lhs; whnf)
          try (rw [hb16]; conv => lhs; whnf)
          try (rw [hb16]; conv => lhs; whnf)
          try (rw [hb16]; conv => lhs; whnf)
          try (rw [hb16]; conv => lhs; whnf)
          try (rw [hb16]; conv => lhs; whnf)
          try (rw [hb16]; conv => lhs; whnf)
          try (rw [hb16]; conv => lhs; whnf)
          try (rw [hb15]; conv => lhs; whnf)
          try (rw [hb16]; conv => lhs; whnf)
          try (rw [hb15]; conv => lhs; whnf)
          rw [wrap_nat i10 (by have := hn_i10; omega)]
          exact hnx11 _ _ _ _ (fun kk => by kernel_rfl) h
        · replace h := ifT h (decT hb16); conv => lhs; whnf
          try (rw [hb16]; conv => lhs; whnf)
          try (rw [hb16]; conv => lhs; whnf)
          try (rw [hb16]; conv => lhs; whnf)
          try (rw [hb16]; conv => lhs; whnf)
          try (rw [hb16]; conv => lhs; whnf)
          obtain ⟨x17, hq_x17, hx_x17', h⟩ := getK_inv h
          have hx_x17 := get_of (r := rPair) hx_x17'
          try (rw [decide_eq_true hq_x17]; conv => lhs; whnf)
          rw [hx_x17]
          conv => lhs; whnf
          try (rw [hb16]; conv => lhs; whnf)
          try (rw [hb16]; conv => lhs; whnf)
          rw [hx_x17]
          conv => lhs; whnf
          try (rw [hb16]; conv => lhs; whnf)
          try (rw [hb15]; conv => lhs; whnf)
          try (rw [hb16]; conv => lhs; whnf)
          try (rw [hb15]; conv => lhs; whnf)
          cases hb18 : ((Op.bytesLess x12.Key.toList x17.Key.toList) || (x12.Key.toList == x17.Key.toList))
          · replace h := ifF h (booF hb18); conv => lhs; whnf
            rw [wrap_nat i10 (by have := hn_i10; omega)]
            exact hnx11 _ _ _ _ (fun kk => by kernel_rfl) h
          · replace h := ifT h hb18; conv => lhs; whnf
            obtain rfl := Option.some.inj h; show _ = _; kernel_rfl

      · replace h := ifT h (decT hb15); conv => lhs; whnf
        try (rw [hb15]; conv => lhs; whnf)
        try (rw [hb15]; conv => lhs; whnf)
        try (rw [hb15]; conv => lhs; whnf)
        try (rw [hb15]; conv => lhs; whnf)
        obtain rfl := Option.some.inj h; show _ = _; kernel_rfl

  · clear h
    rintro next_nx11 ⟨⟩ r h
    try dsimp only at h
    have hd_i10 : (decide ((a_0.length : Int) < (a_0.length : Int))) = false := decide_eq_false (by omega)
    conv => lhs; whnf
    rw [hd_i10]
    conv => lhs; whnf
    obtain rfl := Option.some.inj h; show _ = _; kernel_rfl


noncomputable def p_impl_ValidRecord (a_0 : Record) : Option Bool :=
  callK (p_impl_ValidKey a_0.Key) fun y1 =>
  if y1 = true then
    if (inR a_0.Seq 1 1000000) = true then
      if a_0.Kind = 1 then
        if (ByteArray.size a_0.Value : Int) ≤ 16 then
          some (a_0.End.toList == (⟨#[]⟩ : ByteArray).toList)
        else
          some false
      else
        if a_0.Kind = 2 then
          if (a_0.Value.toList == (⟨#[]⟩ : ByteArray).toList) = true then
            some (a_0.End.toList == (⟨#[]⟩ : ByteArray).toList)
          else
            some false
        else
          if a_0.Kind = 3 then
            if (a_0.Value.toList == (⟨#[]⟩ : ByteArray).toList) = true then
              callK (p_impl_ValidKey a_0.End) fun y10 =>
              if y10 = true then
                some (!((Op.bytesLess a_0.End.toList a_0.Key.toList) || (a_0.End.toList == a_0.Key.toList)))
              else
                some false
            else
              some false
          else
            some false
    else
      some false
  else
    some false

set_option maxHeartbeats 4000000 in
theorem L_impl_ValidRecord (a_0 : Record) {r : Bool} (h : p_impl_ValidRecord a_0 = some r) : callL E 187 [.agg [ST a_0.Key, IN a_0.Seq, IN a_0.Kind, ST a_0.Value, ST a_0.End]] ([] : Fo) = some (BO r, ([] : Fo)) := by
  unfold p_impl_ValidRecord at h
  refine callW (fu := Try.f187) rfl rfl rfl NN ?_
  intro lp cl hlp hcl
  conv => lhs; whnf
  obtain ⟨y1, h_y1, h⟩ := callK_inv h
  rw [cl_eq hcl (L_impl_ValidKey a_0.Key h_y1)]
  rotate_left
  · show _ = _; kernel_rfl
  · show _ = _; kernel_rfl
  conv => lhs; whnf
  cases hb2 : y1
  · replace h := ifF h (booF hb2); conv => lhs; whnf
    try (rw [hb2]; conv => lhs; whnf)
    try (rw [hb2]; conv => lhs; whnf)
    try (rw [hb2]; conv => lhs; whnf)
    try (rw [hb2]; conv => lhs; whnf)
    obtain rfl := Option.some.inj h; show _ = _; kernel_rfl

  · replace h := ifT h hb2
    try rw [hb2] at h
    conv => lhs; whnf
    try (rw [hb2]; conv => lhs; whnf)
    try (rw [hb2]; conv => lhs; whnf)
    rw [cl_eq hcl (L_impl_within a_0.Seq 1 1000000 (pl_within a_0.Seq 1 1000000))]
    rotate_left
    · show _ = _; kernel_rfl
    · show _ = _; kernel_rfl
    conv => lhs; whnf
    try (rw [hb2]; conv => lhs; whnf)
    try (rw [hb2]; conv => lhs; whnf)
    cases hb3 : (inR a_0.Seq 1 1000000)
    · replace h := ifF h (booF hb3); conv => lhs; whnf
      obtain rfl := Option.some.inj h; show _ = _; kernel_rfl

    · replace h := ifT h hb3; conv => lhs; whnf
      cases hb4 : (a_0.Kind == 1)
      · replace h := ifF h (beqF hb4); conv => lhs; whnf
        cases hb6 : (a_0.Kind == 2)
        · replace h := ifF h (beqF hb6); conv => lhs; whnf
          cases hb8 : (a_0.Kind == 3)
          · replace h := ifF h (beqF hb8); conv => lhs; whnf
            obtain rfl := Option.some.inj h; show _ = _; kernel_rfl

          · replace h := ifT h (beqT hb8); conv => lhs; whnf
            cases hb9 : (a_0.Value.toList == (⟨#[]⟩ : ByteArray).toList)
            · replace h := ifF h (booF hb9); conv => lhs; whnf
              try (rw [hb9]; conv => lhs; whnf)
              try (rw [hb9]; conv => lhs; whnf)
              try (rw [hb9]; conv => lhs; whnf)
              obtain rfl := Option.some.inj h; show _ = _; kernel_rfl

            · replace h := ifT h hb9; conv => lhs; whnf
              try (rw [hb9]; conv => lhs; whnf)
              try (rw [hb9]; conv => lhs; whnf)
              obtain ⟨y10, h_y10, h⟩ := callK_inv h
              rw [cl_eq hcl (L_impl_ValidKey a_0.End h_y10)]
              rotate_left
              · show _ = _; kernel_rfl
              · show _ = _; kernel_rfl
              conv => lhs; whnf
              try (rw [hb9]; conv => lhs; whnf)
              cases hb11 : y10
              · replace h := ifF h (booF hb11); conv => lhs; whnf
                try (rw [hb11]; conv => lhs; whnf)
                try (rw [hb11]; conv => lhs; whnf)
                try (rw [hb11]; conv => lhs; whnf)
                try (rw [hb11]; conv => lhs; whnf)
                try (rw [hb11]; conv => lhs; whnf)
                obtain rfl := Option.some.inj h; show _ = _; kernel_rfl

              · replace h := ifT h hb11; conv => lhs; whnf
                try (rw [hb11]; conv => lhs; whnf)
                try (rw [hb11]; conv => lhs; whnf)
                try (rw [hb11]; conv => lhs; whnf)
                try (rw [hb11]; conv => lhs; whnf)
                try (rw [hb11]; conv => lhs; whnf)
                obtain rfl := Option.some.inj h; show _ = _; kernel_rfl

        · replace h := ifT h (beqT hb6); conv => lhs; whnf
          cases hb7 : (a_0.Value.toList == (⟨#[]⟩ : ByteArray).toList)
          · replace h := ifF h (booF hb7); conv => lhs; whnf
            try (rw [hb7]; conv => lhs; whnf)
            try (rw [hb7]; conv => lhs; whnf)
            try (rw [hb7]; conv => lhs; whnf)
            obtain rfl := Option.some.inj h; show _ = _; kernel_rfl

          · replace h := ifT h hb7; conv => lhs; whnf
            try (rw [hb7]; conv => lhs; whnf)
            try (rw [hb7]; conv => lhs; whnf)
            try (rw [hb7]; conv => lhs; whnf)
            obtain rfl := Option.some.inj h; show _ = _; kernel_rfl

      · replace h := ifT h (beqT hb4); conv => lhs; whnf
        cases hb5 : (decide ((ByteArray.size a_0.Value : Int) ≤ 16))
        · replace h := ifF h (decF hb5); conv => lhs; whnf
          try (rw [hb5]; conv => lhs; whnf)
          try (rw [hb5]; conv => lhs; whnf)
          try (rw [hb5]; conv => lhs; whnf)
          obtain rfl := Option.some.inj h; show _ = _; kernel_rfl

        · replace h := ifT h (decT hb5); conv => lhs; whnf
          try (rw [hb5]; conv => lhs; whnf)
          try (rw [hb5]; conv => lhs; whnf)
          try (rw [hb5]; conv => lhs; whnf)
          obtain rfl := Option.some.inj h; show _ = _; kernel_rfl


noncomputable def p_impl_Record_affects (a_0 : Record) (a_1 : ByteArray) : Option Bool :=
  if a_0.Kind = 3 then
    if ((Op.bytesLess a_0.Key.toList a_1.toList) || (a_0.Key.toList == a_1.toList)) = true then
      some (Op.bytesLess a_1.toList a_0.End.toList)
    else
      some false
  else
    some (a_0.Key.toList == a_1.toList)

set_option maxHeartbeats 4000000 in
theorem L_impl_Record_affects (a_0 : Record) (a_1 : ByteArray) {r : Bool} (h : p_impl_Record_affects a_0 a_1 = some r) : callL E 268 [.agg [ST a_0.Key, IN a_0.Seq, IN a_0.Kind, ST a_0.Value, ST a_0.End], ST a_1] ([] : Fo) = some (BO r, ([] : Fo)) := by
  unfold p_impl_Record_affects at h
  refine callW (fu := Try.f268) rfl rfl rfl NN ?_
  intro lp cl hlp hcl
  conv => lhs; whnf
  cases hb1 : (a_0.Kind == 3)
  · replace h := ifF h (beqF hb1); conv => lhs; whnf
    obtain rfl := Option.some.inj h; show _ = _; kernel_rfl

  · replace h := ifT h (beqT hb1); conv => lhs; whnf
    cases hb2 : ((Op.bytesLess a_0.Key.toList a_1.toList) || (a_0.Key.toList == a_1.toList))
    · replace h := ifF h (booF hb2); conv => lhs; whnf
      try (rw [hb2]; conv => lhs; whnf)
      try (rw [hb2]; conv => lhs; whnf)
      try (rw [hb2]; conv => lhs; whnf)
      try (rw [hb2]; conv => lhs; whnf)
      obtain rfl := Option.some.inj h; show _ = _; kernel_rfl

    · replace h := ifT h hb2; conv => lhs; whnf
      try (rw [hb2]; conv => lhs; whnf)
      try (rw [hb2]; conv => lhs; whnf)
      try (rw [hb2]; conv => lhs; whnf)
      try (rw [hb2]; conv => lhs; whnf)
      obtain rfl := Option.some.inj h; show _ = _; kernel_rfl


noncomputable def p_impl_applied_c1 (a_0 : Pair) (a_1 : Record) : Option Bool :=
  callK (p_impl_Record_affects a_1 a_0.Key) fun y1 =>
  some y1

set_option maxHeartbeats 4000000 in
theorem L_impl_applied_c1 (a_0 : Pair) (a_1 : Record) {r : Bool} (h : p_impl_applied_c1 a_0 a_1 = some r) : callL E 267 [.agg [ST a_0.Key, ST a_0.Value], .bp 0 0] ([some (.box [ST a_1.Key, IN a_1.Seq, IN a_1.Kind, ST a_1.Value, ST a_1.End])] : Fo) = some (BO r, ([some (.box [ST a_1.Key, IN a_1.Seq, IN a_1.Kind, ST a_1.Value, ST a_1.End])] : Fo)) := by
  unfold p_impl_applied_c1 at h
  refine callW (fu := Try.f267) rfl rfl rfl NN ?_
  intro lp cl hlp hcl
  conv => lhs; whnf
  obtain ⟨y1, h_y1, h⟩ := callK_inv h
  rw [cl_eq hcl (L_impl_Record_affects a_1 a_0.Key h_y1)]
  rotate_left
  · show _ = _; kernel_rfl
  · show _ = _; kernel_rfl
  conv => lhs; whnf
  obtain rfl := Option.some.inj h; show _ = _; kernel_rfl


noncomputable def p_slices_IndexFunc_impl_applied_c1 (a_0 : List Pair) (a_1 : Record) : Option Int :=
  grd (a_0.length < 4611686018427387904) <|
  forK a_0 (fun (i6 : Nat) x8 (_ : Unit) (nx7 : Unit → Option _) =>
    callK (p_impl_applied_c1 x8 a_1) fun y9 =>
    if y9 = true then
      some (i6 : Int)
    else
      nx7 ()) () (fun (_ : Unit) =>
    some (-1))

set_option maxHeartbeats 4000000 in
theorem L_slices_IndexFunc_impl_applied_c1 (a_0 : List Pair) (a_1 : Record) {r : Int} (h : p_slices_IndexFunc_impl_applied_c1 a_0 a_1 = some r) : callL E 308 [.sl 0, .clo 267 [.bp 1 0]] ([some (.arr 148 2 (a_0.map rPair)), some (.box [ST a_1.Key, IN a_1.Seq, IN a_1.Kind, ST a_1.Value, ST a_1.End])] : Fo) = some (IN r, ([some (.arr 148 2 (a_0.map rPair)), some (.box [ST a_1.Key, IN a_1.Seq, IN a_1.Kind, ST a_1.Value, ST a_1.End])] : Fo)) := by
  unfold p_slices_IndexFunc_impl_applied_c1 at h
  refine callW (fu := Try.f308) rfl rfl rfl NN ?_
  intro lp cl hlp hcl
  conv => lhs; whnf
  try rw [len_of (l := a_0) (r := rPair)]
  obtain ⟨hl_i6, h⟩ := grd_inv h
  refine loop_for hlp (l := a_0) hl_i6 (fun (i6 : Nat) (_ : Unit) => ([.sl 0, .clo 267 [.bp 1 0], .dead, .dead, .dead, .dead, .dead, IN (a_0.length : Int), IN (i6 : Int)] ++ List.replicate 10 .dead : List V)) (fun (i6 : Nat) (_ : Unit) => ([some (.arr 148 2 (a_0.map rPair)), some (.box [ST a_1.Key, IN a_1.Seq, IN a_1.Kind, ST a_1.Value, ST a_1.End])] : Fo)) (fun (r : Int) => ((IN r : V), ([some (.arr 148 2 (a_0.map rPair)), some (.box [ST a_1.Key, IN a_1.Seq, IN a_1.Kind, ST a_1.Value, ST a_1.End])] : Fo))) ?_ ?_ () _ (fun kk => by kernel_rfl) h
  · clear h
    rintro next_nx7 nx7 i6 hi_i6 hnx7 ⟨⟩ r h
    try dsimp only at h
    have hn_i6 : i6 < 4611686018427387904 := by omega
    have hx_x8 := get_map rPair a_0 i6 hi_i6
    generalize a_0[i6] = x8 at h hx_x8
    have hd_i6 : (decide ((i6 : Int) < (a_0.length : Int))) = true := decide_eq_true (by omega)
    conv => lhs; whnf
    rw [hd_i6]
    conv => lhs; whnf
    try (rw [decide_eq_true hq_x8]; conv => lhs; whnf)
    rw [hx_x8]
    conv => lhs; whnf
    rw [hx_x8]
    conv => lhs; whnf
    obtain ⟨y9, h_y9, h⟩ := callK_inv h
    rw [cl_eq hcl (L_impl_applied_c1 x8 a_1 h_y9)]
    rotate_left
    · show _ = _; kernel_rfl
    · show _ = _; kernel_rfl
    conv => lhs; whnf
    cases hb10 : y9
    · replace h := ifF h (booF hb10); conv => lhs; whnf
      rw [wrap_nat i6 (by have := hn_i6; omega)]
      exact hnx7 _ _ _ _ (fun kk => by kernel_rfl) h
    · replace h := ifT h hb10; conv => lhs; whnf
      obtain rfl := Option.some.inj h; show _ = _; kernel_rfl

  · clear h
    rintro next_nx7 ⟨⟩ r h
    try dsimp only at h
    have hd_i6 : (decide ((a_0.length : Int) < (a_0.length : Int))) = false := decide_eq_false (by omega)
    conv => lhs; whnf
    rw [hd_i6]
    conv => lhs; whnf
    obtain rfl := Option.some.inj h; show _ = _; kernel_rfl


noncomputable def p_slices_DeleteFunc_impl_applied_c1 (a_0 : List Pair) (a_1 : Record) : Option (List Pair) :=
  callK (p_slices_IndexFunc_impl_applied_c1 a_0 a_1) fun y1 =>
  if y1 = (-1) then
    some a_0
  else
    iterK (fun ((v3, v4, v5) : (Int × Int × (List Pair))) (nx6 : (Int × Int × (List Pair)) → Option _) =>
      if v4 < (v5.length : Int) then
        getK v5 v4 fun x8 =>
        callK (p_impl_applied_c1 x8 a_1) fun y9 =>
        if y9 = true then
          nx6 (v3, (IntKind.i64.wrap (v4 + 1)), v5)
        else
          getK v5 v3 fun x11 =>
          nx6 ((IntKind.i64.wrap (v3 + 1)), (IntKind.i64.wrap (v4 + 1)), (v5.set (Int.toNat v3) x8))
      else
        grd (0 ≤ v3 ∧ v3 < (v5.length : Int)) <|
        grd (0 ≤ v3 ∧ v3 ≤ ((v5.take (Int.toNat v3) ++ List.replicate (v5.length - (Int.toNat v3)) (⟨(⟨#[]⟩ : ByteArray), (⟨#[]⟩ : ByteArray)⟩ : Pair)).length : Int)) <|
        some ((v5.take (Int.toNat v3) ++ List.replicate (v5.length - (Int.toNat v3)) (⟨(⟨#[]⟩ : ByteArray), (⟨#[]⟩ : ByteArray)⟩ : Pair)).take (Int.toNat v3))) NN (y1, (IntKind.i64.wrap (y1 + 1)), a_0)

set_option maxHeartbeats 4000000 in
theorem L_slices_DeleteFunc_impl_applied_c1 (a_0 : List Pair) (a_1 : Record) {r : (List Pair)} (h : p_slices_DeleteFunc_impl_applied_c1 a_0 a_1 = some r) : callL E 266 [.sl 0, .clo 267 [.bp 1 0]] ([some (.arr 148 2 (a_0.map rPair)), some (.box [ST a_1.Key, IN a_1.Seq, IN a_1.Kind, ST a_1.Value, ST a_1.End])] : Fo) = some (.sl 2, ([none, some (.box [ST a_1.Key, IN a_1.Seq, IN a_1.Kind, ST a_1.Value, ST a_1.End]), some (.arr 148 2 (r.map rPair))] : Fo)) := by
  unfold p_slices_DeleteFunc_impl_applied_c1 at h
  refine callW (fu := Try.f266) rfl rfl rfl NN ?_
  intro lp cl hlp hcl
  conv => lhs; whnf
  obtain ⟨y1, h_y1, h⟩ := callK_inv h
  rw [cl_eq hcl (L_slices_IndexFunc_impl_applied_c1 a_0 a_1 h_y1)]
  rotate_left
  · show _ = _; kernel_rfl
  · show _ = _; kernel_rfl
  conv => lhs; whnf
  cases hb2 : (y1 == (-1))
  · replace h := ifF h (beqF hb2); conv => lhs; whnf
    refine loop_iter hlp (fun ((v3, v4, v5) : (Int × Int × (List Pair))) => ([.sl 0, .clo 267 [.bp 1 0], .dead, .dead, .dead, IN v3, IN v4] ++ List.replicate 35 .dead : List V)) (fun ((v3, v4, v5) : (Int × Int × (List Pair))) => ([some (.arr 148 2 (v5.map rPair)), some (.box [ST a_1.Key, IN a_1.Seq, IN a_1.Kind, ST a_1.Value, ST a_1.End])] : Fo)) (fun (r : (List Pair)) => ((.sl 2 : V), ([none, some (.box [ST a_1.Key, IN a_1.Seq, IN a_1.Kind, ST a_1.Value, ST a_1.End]), some (.arr 148 2 (r.map rPair))] : Fo))) ?_ (y1, (IntKind.i64.wrap (y1 + 1)), a_0) _ (fun kk => by kernel_rfl) h
    clear h
    rintro next_nx6 nx6 hnx6 ⟨v3, v4, v5⟩ r h
    try dsimp only at h
    conv => lhs; whnf
    try rw [len_of (l := v5) (r := rPair)]
    cases hb7 : (decide (v4 < (v5.length : Int)))
    · replace h := ifF h (decF hb7); conv => lhs; whnf
      obtain ⟨hg12, h⟩ := grd_inv h
      try rw [List.length_map]
      try (rw [decide_eq_true hg12.1]; conv => lhs; whnf)
      try (rw [decide_eq_true hg12.2])
      conv => lhs; whnf
      first | (rw [wipe_of (r := rPair) (l := v5) (x := (⟨(⟨#[]⟩ : ByteArray), (⟨#[]⟩ : ByteArray)⟩ : Pair)) ?hh]; case hh => exact rfl) | skip
      obtain ⟨hg13, h⟩ := grd_inv h
      try rw [List.length_map]
      try (rw [decide_eq_true hg13.1]; conv => lhs; whnf)
      try (rw [decide_eq_true hg13.2])
      conv => lhs; whnf
      try rw [take_of (r := rPair) (l := (v5.take (Int.toNat v3) ++ List.replicate (v5.length - (Int.toNat v3)) (⟨(⟨#[]⟩ : ByteArray), (⟨#[]⟩ : ByteArray)⟩ : Pair)))]
      obtain rfl := Option.some.inj h; show _ = _; kernel_rfl

    · replace h := ifT h (decT hb7); conv => lhs; whnf
      obtain ⟨x8, hq_x8, hx_x8', h⟩ := getK_inv h
      have hx_x8 := get_of (r := rPair) hx_x8'
      try (rw [decide_eq_true hq_x8]; conv => lhs; whnf)
      rw [hx_x8]
      conv => lhs; whnf
      rw [hx_x8]
      conv => lhs; whnf
      obtain ⟨y9, h_y9, h⟩ := callK_inv h
      rw [cl_eq hcl (L_impl_applied_c1 x8 a_1 h_y9)]
      rotate_left
      · show _ = _; kernel_rfl
      · show _ = _; kernel_rfl
      conv => lhs; whnf
      cases hb10 : y9
      · replace h := ifF h (booF hb10); conv => lhs; whnf
        obtain ⟨x11, hq_x11, hx_x11', h⟩ := getK_inv h
        have hx_x11 := get_of (r := rPair) hx_x11'
        try (rw [decide_eq_true hq_x11]; conv => lhs; whnf)
        rw [hx_x11]
        conv => lhs; whnf
        rw [hx_x11]
        conv => lhs; whnf
        first | (rw [map_set_of (r := rPair) (l := v5) (x := x8) ?hh]; case hh => exact rfl) | skip
        exact hnx6 _ _ _ _ (fun kk => by kernel_rfl) h
      · replace h := ifT h hb10; conv => lhs; whnf
        exact hnx6 _ _ _ _ (fun kk => by kernel_rfl) h
  · replace h := ifT h (beqT hb2); conv => lhs; whnf
    obtain rfl := Option.some.inj h; show _ = _; kernel_rfl


noncomputable def p_impl_applied_c2 (a_0 : Pair) (a_1 : ByteArray) : Option Int :=
  some (cmpB a_0.Key a_1)

set_option maxHeartbeats 4000000 in
theorem L_impl_applied_c2 (a_0 : Pair) (a_1 : ByteArray) {r : Int} (h : p_impl_applied_c2 a_0 a_1 = some r) : callL E 270 [.agg [ST a_0.Key, ST a_0.Value], ST a_1] ([] : Fo) = some (IN r, ([] : Fo)) := by
  unfold p_impl_applied_c2 at h
  refine callW (fu := Try.f270) rfl rfl rfl NN ?_
  intro lp cl hlp hcl
  conv => lhs; whnf
  rw [cl_eq hcl (f_Compare a_0.Key a_1)]
  rotate_left
  · exact rfl
  · exact rfl
  conv => lhs; whnf
  obtain rfl := Option.some.inj h; show _ = _; kernel_rfl


noncomputable def p_slices_BinarySearchFunc_impl_applied_c2 (a_0 : ByteArray) (a_1 : List Pair) : Option (Int × Bool) :=
  iterK (fun ((v1, v2) : (Int × Int)) (nx3 : (Int × Int) → Option _) =>
    if v1 < v2 then
      getK a_1 (IntKind.i64.wrap (Int.fdiv (IntKind.u64.wrap (IntKind.i64.wrap (v1 + v2))) (2 ^ (min (Int.toNat 1) IntKind.u64.bits)))) fun x5 =>
      callK (p_impl_applied_c2 x5 a_0) fun y6 =>
      if y6 < 0 then
        nx3 ((IntKind.i64.wrap ((IntKind.i64.wrap (Int.fdiv (IntKind.u64.wrap (IntKind.i64.wrap (v1 + v2))) (2 ^ (min (Int.toNat 1) IntKind.u64.bits)))) + 1)), v2)
      else
        nx3 (v1, (IntKind.i64.wrap (Int.fdiv (IntKind.u64.wrap (IntKind.i64.wrap (v1 + v2))) (2 ^ (min (Int.toNat 1) IntKind.u64.bits)))))
    else
      if v1 < (a_1.length : Int) then
        getK a_1 v1 fun x9 =>
        callK (p_impl_applied_c2 x9 a_0) fun y10 =>
        some (v1, (y10 == 0))
      else
        some (v1, false)) NN (0, (a_1.length : Int))

set_option maxHeartbeats 4000000 in
theorem L_slices_BinarySearchFunc_impl_applied_c2 (a_0 : ByteArray) (a_1 : List Pair) {r : (Int × Bool)} (h : p_slices_BinarySearchFunc_impl_applied_c2 a_0 a_1 = some r) : callL E 269 [.sl 0, ST a_0, .clo 270 []] ([some (.arr 148 2 (a_1.map rPair))] : Fo) = some (.tup [IN r.1, BO r.2], ([some (.arr 148 2 (a_1.map rPair))] : Fo)) := by
  unfold p_slices_BinarySearchFunc_impl_applied_c2 at h
  refine callW (fu := Try.f269) rfl rfl rfl NN ?_
  intro lp cl hlp hcl
  conv => lhs; whnf
  try rw [len_of (l := a_1) (r := rPair)]
  refine loop_iter hlp (fun ((v1, v2) : (Int × Int)) => ([.sl 0, ST a_0, .clo 270 [], .dead, .dead, .dead, .dead, .dead, IN (a_1.length : Int), IN v1, IN v2] ++ List.replicate 38 .dead : List V)) (fun ((v1, v2) : (Int × Int)) => ([some (.arr 148 2 (a_1.map rPair))] : Fo)) (fun (r : (Int × Bool)) => ((.tup [IN r.1, BO r.2] : V), ([some (.arr 148 2 (a_1.map rPair))] : Fo))) ?_ (0, (a_1.length : Int)) _ (fun kk => by kernel_rfl) h
  clear h
  rintro next_nx3 nx3 hnx3 ⟨v1, v2⟩ r h
  try dsimp only at h
  conv => lhs; whnf
  cases hb4 : (decide (v1 < v2))
  · replace h := ifF h (decF hb4); conv => lhs; whnf
    cases hb8 : (decide (v1 < (a_1.length : Int)))
    · replace h := ifF h (decF hb8); conv => lhs; whnf
      try (rw [hb8]; conv => lhs; whnf)
      try (rw [hb8]; conv => lhs; whnf)
      try (rw [hb8]; conv => lhs; whnf)
      try (rw [hb8]; conv => lhs; whnf)
      try (rw [hb8]; conv => lhs; whnf)
      try (rw [hb8]; conv => lhs; whnf)
      try (rw [hb8]; conv => lhs; whnf)
      try (rw [hb8]; conv => lhs; whnf)
      obtain rfl := Option.some.inj h; show _ = _; kernel_rfl

    · replace h := ifT h (decT hb8); conv => lhs; whnf
      try (rw [hb8]; conv => lhs; whnf)
      try (rw [hb8]; conv => lhs; whnf)
      try (rw [hb8]; conv => lhs; whnf)
      obtain ⟨x9, hq_x9, hx_x9', h⟩ := getK_inv h
      have hx_x9 := get_of (r := rPair) hx_x9'
      try (rw [decide_eq_true hq_x9]; conv => lhs; whnf)
      rw [hx_x9]
      conv => lhs; whnf
      try (rw [hb8]; conv => lhs; whnf)
      rw [hx_x9]
      conv => lhs; whnf
      try (rw [hb8]; conv => lhs; whnf)
      try (rw [hb8]; conv => lhs; whnf)
      obtain ⟨y10, h_y10, h⟩ := callK_inv h
      rw [cl_eq hcl (L_impl_applied_c2 x9 a_0 h_y10)]
      rotate_left
      · show _ = _; kernel_rfl
      · show _ = _; kernel_rfl
      conv => lhs; whnf
      try (rw [hb8]; conv => lhs; whnf)
      try (rw [hb8]; conv => lhs; whnf)
      obtain rfl := Option.some.inj h; show _ = _; kernel_rfl

  · replace h := ifT h (decT hb4); conv => lhs; whnf
    obtain ⟨x5, hq_x5, hx_x5', h⟩ := getK_inv h
    have hx_x5 := get_of (r := rPair) hx_x5'
    try (rw [decide_eq_true hq_x5]; conv => lhs; whnf)
    rw [hx_x5]
    conv => lhs; whnf
    rw [hx_x5]
    conv => lhs; whnf
    obtain ⟨y6, h_y6, h⟩ := callK_inv h
    rw [cl_eq hcl (L_impl_applied_c2 x5 a_0 h_y6)]
    rotate_left
    · show _ = _; kernel_rfl
    · show _ = _; kernel_rfl
    conv => lhs; whnf
    cases hb7 : (decide (y6 < 0))
    · replace h := ifF h (decF hb7); conv => lhs; whnf
      exact hnx3 _ _ _ _ (fun kk => by kernel_rfl) h
    · replace h := ifT h (decT hb7); conv => lhs; whnf
      exact hnx3 _ _ _ _ (fun kk => by kernel_rfl) h

noncomputable def p_impl_applied (a_0 : List Pair) (a_1 : Record) : Option (List Pair) :=
  grd (appOk a_0.length 32 = true) <|
  callK (p_slices_DeleteFunc_impl_applied_c1 a_0 a_1) fun y1 =>
  if ¬ a_1.Kind = 1 then
    some y1
  else
    callK (p_slices_BinarySearchFunc_impl_applied_c2 a_1.Key y1) fun y3 =>
    grd (0 ≤ y3.1 ∧ y3.1 ≤ (y1.length : Int) ∧ 0 < ([(⟨a_1.Key, a_1.Value⟩ : Pair)] : List Pair).length) <|
    grd (appOk (y1.length + ([(⟨a_1.Key, a_1.Value⟩ : Pair)] : List Pair).length) 32 = true) <|
    some (y1.take (Int.toNat y3.1) ++ ([(⟨a_1.Key, a_1.Value⟩ : Pair)] : List Pair) ++ y1.drop (Int.toNat y3.1))

set_option maxHeartbeats 4000000 in
theorem L_impl_applied (a_0 : List Pair) (a_1 : Record) {r : (List Pair)} (h : p_impl_applied a_0 a_1 = some r) : callL E 188 [.d (.arr (a_0.map rPair)), .agg [ST a_1.Key, IN a_1.Seq, IN a_1.Kind, ST a_1.Value, ST a_1.End]] ([] : Fo) = some (.d (.arr (r.map rPair)), ([] : Fo)) := by
  unfold p_impl_applied at h
  refine callW (fu := Try.f188) rfl rfl rfl NN ?_
  intro lp cl hlp hcl
  conv => lhs; whnf
  obtain ⟨hg4, h⟩ := grd_inv h
  rw [cl_eq hcl (f_clone (rows := a_0.map rPair) rfl (app_eq hg4 (List.length_map ..) rfl) (allLen_map rPair _ rPair_len _) rfl)]
  rotate_left
  · exact rfl
  · exact rfl
  conv => lhs; whnf
  obtain ⟨y1, h_y1, h⟩ := callK_inv h
  rw [cl_eq hcl (L_slices_DeleteFunc_impl_applied_c1 a_0 a_1 h_y1)]
  rotate_left
  · show _ = _; kernel_rfl
  · show _ = _; kernel_rfl
  conv => lhs; whnf
  cases hb2 : (a_1.Kind != 1)
  · replace h := ifF h ((fun h => not_not_intro (bneF h)) hb2); conv => lhs; whnf
    obtain ⟨y3, h_y3, h⟩ := callK_inv h
    rw [cl_eq hcl (L_slices_BinarySearchFunc_impl_applied_c2 a_1.Key y1 h_y3)]
    rotate_left
    · show _ = _; kernel_rfl
    · show _ = _; kernel_rfl
    conv => lhs; whnf
    obtain ⟨hg5, h⟩ := grd_inv h; conv => lhs; whnf
    obtain ⟨hg6, h⟩ := grd_inv h
    rw [cl_eq hcl (f_insert (e1 := 148) (es := 2) (e2 := 148) (es2 := 2) (r := rPair) (l := y1) (l2 := ([(⟨a_1.Key, a_1.Value⟩ : Pair)] : List Pair)) (j := y3.1) rfl rfl rfl rfl hg5 hg6 rfl rfl)]
    rotate_left
    · exact rfl
    · exact rfl
    conv => lhs; whnf
    obtain rfl := Option.some.inj h; show _ = _; kernel_rfl

  · replace h := ifT h (bneT hb2); conv => lhs; whnf
    obtain rfl := Option.some.inj h; show _ = _; kernel_rfl


noncomputable def p_impl_ApplyRecord (a_0 : List Pair) (a_1 : Record) : Option ((List Pair) × Int) :=
  callK (p_impl_pairsOk a_0) fun y1 =>
  if y1 = true then
    callK (p_impl_ValidRecord a_1) fun y3 =>
    if y3 = true then
      callK (p_impl_applied a_0 a_1) fun y5 =>
      some (y5, 0)
    else
      some (([] : List Pair), 1)
  else
    some (([] : List Pair), 1)

set_option maxHeartbeats 4000000 in
theorem L_impl_ApplyRecord (a_0 : List Pair) (a_1 : Record) {r : ((List Pair) × Int)} (h : p_impl_ApplyRecord a_0 a_1 = some r) : callL E 98 [.d (.arr (a_0.map rPair)), .agg [ST a_1.Key, IN a_1.Seq, IN a_1.Kind, ST a_1.Value, ST a_1.End]] ([] : Fo) = some (.tup [.d (.arr (r.1.map rPair)), IN r.2], ([] : Fo)) := by
  unfold p_impl_ApplyRecord at h
  refine callW (fu := Try.f98) rfl rfl rfl NN ?_
  intro lp cl hlp hcl
  conv => lhs; whnf
  obtain ⟨y1, h_y1, h⟩ := callK_inv h
  rw [cl_eq hcl (L_impl_pairsOk a_0 h_y1)]
  rotate_left
  · show _ = _; kernel_rfl
  · show _ = _; kernel_rfl
  conv => lhs; whnf
  cases hb2 : y1
  · replace h := ifF h (booF hb2); conv => lhs; whnf
    try (rw [hb2]; conv => lhs; whnf)
    try (rw [hb2]; conv => lhs; whnf)
    try (rw [hb2]; conv => lhs; whnf)
    obtain rfl := Option.some.inj h; show _ = _; kernel_rfl

  · replace h := ifT h hb2; conv => lhs; whnf
    try (rw [hb2]; conv => lhs; whnf)
    obtain ⟨y3, h_y3, h⟩ := callK_inv h
    rw [cl_eq hcl (L_impl_ValidRecord a_1 h_y3)]
    rotate_left
    · show _ = _; kernel_rfl
    · show _ = _; kernel_rfl
    conv => lhs; whnf
    try (rw [hb2]; conv => lhs; whnf)
    try (rw [hb2]; conv => lhs; whnf)
    cases hb4 : y3
    · replace h := ifF h (booF hb4); conv => lhs; whnf
      obtain rfl := Option.some.inj h; show _ = _; kernel_rfl

    · replace h := ifT h hb4; conv => lhs; whnf
      obtain ⟨y5, h_y5, h⟩ := callK_inv h
      rw [cl_eq hcl (L_impl_applied a_0 a_1 h_y5)]
      rotate_left
      · show _ = _; kernel_rfl
      · show _ = _; kernel_rfl
      conv => lhs; whnf
      obtain rfl := Option.some.inj h; show _ = _; kernel_rfl


noncomputable def p_impl_StatesAfter (a_0 : List Pair) (a_1 : List (List Record)) : Option (List (List Pair)) :=
  grd (appOk a_0.length 32 = true) <|
  grd (a_1.length < 4611686018427387904) <|
  forK a_1 (fun (i18 : Nat) x22 ((v19, v20) : ((List Pair) × (List (List Pair)))) (nx21 : ((List Pair) × (List (List Pair))) → Option _) =>
    grd (x22.length < 4611686018427387904) <|
    forK x22 (fun (i29 : Nat) x32 (v30 : List Pair) (nx31 : (List Pair) → Option _) =>
      callK (p_impl_ApplyRecord v30 (⟨x32.Key, 1, x32.Kind, x32.Value, x32.End⟩ : Record)) fun y33 =>
      if ¬ y33.2 = 0 then
        some ([] : List (List Pair))
      else
        nx31 y33.1) v19 (fun (v30 : List Pair) =>
      grd (appOk v30.length 32 = true) <|
      grd (appOk (v20.length + 1) 24 = true) <|
      nx21 (v30, (v20 ++ ([v30] : List (List Pair)))))) (a_0, ([a_0] : List (List Pair))) (fun ((v19, v20) : ((List Pair) × (List (List Pair)))) =>
    some v20)

set_option maxHeartbeats 4000000 in
theorem L_impl_StatesAfter (a_0 : List Pair) (a_1 : List (List Record)) {r : (List (List Pair))} (h : p_impl_StatesAfter a_0 a_1 = some r) : callL E 19 [.d (.arr (a_0.map rPair)), .d (.arr (a_1.map (rL rRecord)))] ([] : Fo) = some (.nsl 0, ([some (.nst ⟨28, 1, 0, 148, 2⟩ r.length (r.map (rL rPair)))] : Fo)) := by
  unfold p_impl_StatesAfter at h
  refine callW (fu := Try.f19) rfl rfl rfl NN ?_
  intro lp cl hlp hcl
  conv => lhs; whnf
  obtain ⟨hg35, h⟩ := grd_inv h
  rw [cl_eq hcl (f_clone (rows := a_0.map rPair) rfl (app_eq hg35 (List.length_map ..) rfl) (allLen_map rPair _ rPair_len _) rfl)]
  rotate_left
  · exact rfl
  · exact rfl
  conv => lhs; whnf
  try rw [len_of (l := a_1) (r := (rL rRecord))]
  obtain ⟨hl_i18, h⟩ := grd_inv h
  refine loop_for hlp (l := a_1) hl_i18 (fun (i18 : Nat) ((v19, v20) : ((List Pair) × (List (List Pair)))) => ([.d (.arr (v19.map rPair)), .dead, .dead, .dead, .dead, .nsl 0, .dead, .dead, .dead, .dead, .dead, .dead, .dead, .dead, .dead, .d (.arr (a_1.map (rL rRecord))), IN (a_1.length : Int), IN (i18 : Int)] ++ List.replicate 27 .dead : List V)) (fun (i18 : Nat) ((v19, v20) : ((List Pair) × (List (List Pair)))) => ([some (.nst ⟨28, 1, 0, 148, 2⟩ v20.length (v20.map (rL rPair)))] : Fo)) (fun (r : (List (List Pair))) => ((.nsl 0 : V), ([some (.nst ⟨28, 1, 0, 148, 2⟩ r.length (r.map (rL rPair)))] : Fo))) ?_ ?_ (a_0, ([a_0] : List (List Pair))) _ (fun kk => by kernel_rfl) h
  · clear h
    rintro next_nx21 nx21 i18 hi_i18 hnx21 ⟨v19, v20⟩ r h
    try dsimp only at h
    have hn_i18 : i18 < 4611686018427387904 := by omega
    have hx_x22 := get_map (rL rRecord) a_1 i18 hi_i18
    generalize a_1[i18] = x22 at h hx_x22
    have hd_i18 : (decide ((i18 : Int) < (a_1.length : Int))) = true := decide_eq_true (by omega)
    conv => lhs; whnf
    rw [hd_i18]
    conv => lhs; whnf
    try (rw [decide_eq_true hq_x22]; conv => lhs; whnf)
    rw [hx_x22]
    conv => lhs; whnf
    rw [hx_x22]
    conv => lhs; whnf
    try rw [len_of (l := x22) (r := rRecord)]
    obtain ⟨hl_i29, h⟩ := grd_inv h
    refine loop_for hlp (l := x22) hl_i29 (fun (i29 : Nat) (v30 : List Pair) => ([.d (.arr (v30.map rPair)), .dead, .dead, .dead, .dead, .nsl 0, .dead, .dead, .dead, .dead, .dead, .dead, .dead, .dead, .dead, .d (.arr (a_1.map (rL rRecord))), IN (a_1.length : Int), IN (i18 : Int), .dead, .dead, .dead, .d (.arr (x22.map rRecord)), IN (x22.length : Int), IN (i29 : Int)] ++ List.replicate 21 .dead : List V)) (fun (i29 : Nat) (v30 : List Pair) => ([some (.nst ⟨28, 1, 0, 148, 2⟩ v20.length (v20.map (rL rPair)))] : Fo)) (fun (r : (List (List Pair))) => ((.nsl 0 : V), ([some (.nst ⟨28, 1, 0, 148, 2⟩ r.length (r.map (rL rPair)))] : Fo))) ?_ ?_ v19 _ (fun kk => by kernel_rfl) h
    · clear h
      rintro next_nx31 nx31 i29 hi_i29 hnx31 v30 r h
      try dsimp only at h
      have hn_i29 : i29 < 4611686018427387904 := by omega
      have hx_x32 := get_map rRecord x22 i29 hi_i29
      generalize x22[i29] = x32 at h hx_x32
      have hd_i29 : (decide ((i29 : Int) < (x22.length : Int))) = true := decide_eq_true (by omega)
      conv => lhs; whnf
      rw [hd_i29]
      conv => lhs; whnf
      try (rw [decide_eq_true hq_x32]; conv => lhs; whnf)
      rw [hx_x32]
      conv => lhs; whnf
      rw [hx_x32]
      conv => lhs; whnf
      obtain ⟨y33, h_y33, h⟩ := callK_inv h
      rw [cl_eq hcl (L_impl_ApplyRecord v30 (⟨x32.Key, 1, x32.Kind, x32.Value, x32.End⟩ : Record) h_y33)]
      rotate_left
      · show _ = _; kernel_rfl
      · show _ = _; kernel_rfl
      conv => lhs; whnf
      cases hb34 : (y33.2 != 0)
      · replace h := ifF h ((fun h => not_not_intro (bneF h)) hb34); conv => lhs; whnf
        rw [wrap_nat i29 (by have := hn_i29; omega)]
        exact hnx31 _ _ _ _ (fun kk => by kernel_rfl) h
      · replace h := ifT h (bneT hb34); conv => lhs; whnf
        obtain rfl := Option.some.inj h; show _ = _; kernel_rfl

    · clear h
      rintro next_nx31 v30 r h
      try dsimp only at h
      have hd_i29 : (decide ((x22.length : Int) < (x22.length : Int))) = false := decide_eq_false (by omega)
      conv => lhs; whnf
      rw [hd_i29]
      conv => lhs; whnf
      obtain ⟨hg36, h⟩ := grd_inv h
      rw [cl_eq hcl (f_clone (rows := v30.map rPair) rfl (app_eq hg36 (List.length_map ..) rfl) (allLen_map rPair _ rPair_len _) rfl)]
      rotate_left
      · exact rfl
      · exact rfl
      conv => lhs; whnf
      conv => lhs; whnf
      try (rw [beq_len (n := v20.length) (l := v20) (by simp only [List.length_set, List.length_append, List.length_cons, List.length_nil, Nat.zero_add])]; conv => lhs; whnf)
      obtain ⟨hg37, h⟩ := grd_inv h
      rw [app_eq hg37 ?h1 ?h2]
      case h1 => first | exact rfl | (rw [List.length_map]; done) | (rw [List.length_map]; rfl)
      case h2 => exact rfl
      conv => lhs; whnf
      first | (rw [map_app_of (r := (rL rPair)) (l := v20) (m := ([v30] : List (List Pair))) ?hh]; case hh => exact rfl) | skip
      rw [wrap_nat i18 (by have := hn_i18; omega)]
      exact hnx21 _ _ _ _ (fun kk => by (try simp only [List.length_set, List.length_append, List.length_cons, List.length_nil, Nat.zero_add]); kernel_rfl) h
  · clear h
    rintro next_nx21 ⟨v19, v20⟩ r h
    try dsimp only at h
    have hd_i18 : (decide ((a_1.length : Int) < (a_1.length : Int))) = false := decide_eq_false (by omega)
    conv => lhs; whnf
    rw [hd_i18]
    conv => lhs; whnf
    obtain rfl := Option.some.inj h; show _ = _; kernel_rfl


noncomputable def p_laws_eqPair (a_0 : Pair) (a_1 : Pair) : Option Bool :=
  if (a_0.Key.toList == a_1.Key.toList) = true then
    if (a_0.Value.toList == a_1.Value.toList) = true then
      some true
    else
      some false
  else
    some false

set_option maxHeartbeats 4000000 in
theorem L_laws_eqPair (a_0 : Pair) (a_1 : Pair) {r : Bool} (h : p_laws_eqPair a_0 a_1 = some r) : callL E 99 [.agg [ST a_0.Key, ST a_0.Value], .agg [ST a_1.Key, ST a_1.Value]] ([] : Fo) = some (BO r, ([] : Fo)) := by
  unfold p_laws_eqPair at h
  refine callW (fu := Try.f99) rfl rfl rfl NN ?_
  intro lp cl hlp hcl
  conv => lhs; whnf
  cases hb1 : (a_0.Key.toList == a_1.Key.toList)
  · replace h := ifF h (booF hb1); conv => lhs; whnf
    obtain rfl := Option.some.inj h; show _ = _; kernel_rfl

  · replace h := ifT h hb1; conv => lhs; whnf
    cases hb2 : (a_0.Value.toList == a_1.Value.toList)
    · replace h := ifF h (booF hb2); conv => lhs; whnf
      obtain rfl := Option.some.inj h; show _ = _; kernel_rfl

    · replace h := ifT h hb2; conv => lhs; whnf
      obtain rfl := Option.some.inj h; show _ = _; kernel_rfl


noncomputable def p_laws_eqPairS (a_0 : List Pair) (a_1 : List Pair) : Option Bool :=
  if ¬ (a_0.length : Int) = (a_1.length : Int) then
    some false
  else
    grd (a_0.length < 4611686018427387904) <|
    forK a_0 (fun (i8 : Nat) x10 (_ : Unit) (nx9 : Unit → Option _) =>
      getK a_1 (i8 : Int) fun x11 =>
      callK (p_laws_eqPair x10 x11) fun y12 =>
      if y12 = true then
        nx9 ()
      else
        some false) () (fun (_ : Unit) =>
      some true)

set_option maxHeartbeats 4000000 in
theorem L_laws_eqPairS (a_0 : List Pair) (a_1 : List Pair) {r : Bool} (h : p_laws_eqPairS a_0 a_1 = some r) : callL E 21 [.d (.arr (a_0.map rPair)), .d (.arr (a_1.map rPair))] ([] : Fo) = some (BO r, ([] : Fo)) := by
  unfold p_laws_eqPairS at h
  refine callW (fu := Try.f21) rfl rfl rfl NN ?_
  intro lp cl hlp hcl
  conv => lhs; whnf
  try rw [len_of (l := a_0) (r := rPair)]
  try rw [len_of (l := a_1) (r := rPair)]
  cases hb1 : ((a_0.length : Int) != (a_1.length : Int))
  · replace h := ifF h ((fun h => not_not_intro (bneF h)) hb1); conv => lhs; whnf
    obtain ⟨hl_i8, h⟩ := grd_inv h
    refine loop_for hlp (l := a_0) hl_i8 (fun (i8 : Nat) (_ : Unit) => ([.d (.arr (a_0.map rPair)), .d (.arr (a_1.map rPair)), .dead, .dead, .dead, IN (i8 : Int)] ++ List.replicate 21 .dead : List V)) (fun (i8 : Nat) (_ : Unit) => ([] : Fo)) (fun (r : Bool) => ((BO r : V), ([] : Fo))) ?_ ?_ () _ (fun kk => by kernel_rfl) h
    · clear h
      rintro next_nx9 nx9 i8 hi_i8 hnx9 ⟨⟩ r h
      try dsimp only at h
      have hn_i8 : i8 < 4611686018427387904 := by omega
      have hx_x10 := get_map rPair a_0 i8 hi_i8
      generalize a_0[i8] = x10 at h hx_x10
      have hd_i8 : (decide ((i8 : Int) < (a_0.length : Int))) = true := decide_eq_true (by omega)
      conv => lhs; whnf
      try rw [len_of (l := a_0) (r := rPair)]
      rw [hd_i8]
      conv => lhs; whnf
      try (rw [decide_eq_true hq_x10]; conv => lhs; whnf)
      rw [hx_x10]
      conv => lhs; whnf
      rw [hx_x10]
      conv => lhs; whnf
      obtain ⟨x11, hq_x11, hx_x11', h⟩ := getK_inv h
      have hx_x11 := get_of (r := rPair) hx_x11'
      try (rw [decide_eq_true hq_x11]; conv => lhs; whnf)
      rw [hx_x11]
      conv => lhs; whnf
      rw [hx_x11]
      conv => lhs; whnf
      obtain ⟨y12, h_y12, h⟩ := callK_inv h
      rw [cl_eq hcl (L_laws_eqPair x10 x11 h_y12)]
      rotate_left
      · show _ = _; kernel_rfl
      · show _ = _; kernel_rfl
      conv => lhs; whnf
      cases hb13 : y12
      · replace h := ifF h (booF hb13); conv => lhs; whnf
        obtain rfl := Option.some.inj h; show _ = _; kernel_rfl

      · replace h := ifT h hb13; conv => lhs; whnf
        rw [wrap_nat i8 (by have := hn_i8; omega)]
        exact hnx9 _ _ _ _ (fun kk => by kernel_rfl) h
    · clear h
      rintro next_nx9 ⟨⟩ r h
      try dsimp only at h
      have hd_i8 : (decide ((a_0.length : Int) < (a_0.length : Int))) = false := decide_eq_false (by omega)
      conv => lhs; whnf
      try rw [len_of (l := a_0) (r := rPair)]
      rw [hd_i8]
      conv => lhs; whnf
      obtain rfl := Option.some.inj h; show _ = _; kernel_rfl

  · replace h := ifT h (bneT hb1); conv => lhs; whnf
    obtain rfl := Option.some.inj h; show _ = _; kernel_rfl


noncomputable def p_laws_eqPairSS (a_0 : List (List Pair)) (a_1 : List (List Pair)) : Option Bool :=
  if ¬ (a_0.length : Int) = (a_1.length : Int) then
    some false
  else
    grd (a_0.length < 4611686018427387904) <|
    forK a_0 (fun (i8 : Nat) x10 (_ : Unit) (nx9 : Unit → Option _) =>
      getK a_1 (i8 : Int) fun x11 =>
      callK (p_laws_eqPairS x10 x11) fun y12 =>
      if y12 = true then
        nx9 ()
      else
        some false) () (fun (_ : Unit) =>
      some true)

set_option maxHeartbeats 4000000 in
theorem L_laws_eqPairSS (a_0 : List (List Pair)) (a_1 : List (List Pair)) {r : Bool} (h : p_laws_eqPairSS a_0 a_1 = some r) : callL E 20 [.d (.arr (a_0.map (rL rPair))), .d (.arr (a_1.map (rL rPair)))] ([] : Fo) = some (BO r, ([] : Fo)) := by
  unfold p_laws_eqPairSS at h
  refine callW (fu := Try.f20) rfl rfl rfl NN ?_
  intro lp cl hlp hcl
  conv => lhs; whnf
  try rw [len_of (l := a_0) (r := (rL rPair))]
  try rw [len_of (l := a_1) (r := (rL rPair))]
  cases hb1 : ((a_0.length : Int) != (a_1.length : Int))
  · replace h := ifF h ((fun h => not_not_intro (bneF h)) hb1); conv => lhs; whnf
    obtain ⟨hl_i8, h⟩ := grd_inv h
    refine loop_for hlp (l := a_0) hl_i8 (fun (i8 : Nat) (_ : Unit) => ([.d (.arr (a_0.map (rL rPair))), .d (.arr (a_1.map (rL rPair))), .dead, .dead, .dead, IN (i8 : Int)] ++ List.replicate 21 .dead : List V)) (fun (i8 : Nat) (_ : Unit) => ([] : Fo)) (fun (r : Bool) => ((BO r : V), ([] : Fo))) ?_ ?_ () _ (fun kk => by kernel_rfl) h
    · clear h
      rintro next_nx9 nx9 i8 hi_i8 hnx9 ⟨⟩ r h
      try dsimp only at h
      have hn_i8 : i8 < 4611686018427387904 := by omega
      have hx_x10 := get_map (rL rPair) a_0 i8 hi_i8
      generalize a_0[i8] = x10 at h hx_x10
      have hd_i8 : (decide ((i8 : Int) < (a_0.length : Int))) = true := decide_eq_true (by omega)
      conv => lhs; whnf
      try rw [len_of (l := a_0) (r := (rL rPair))]
      rw [hd_i8]
      conv => lhs; whnf
      try (rw [decide_eq_true hq_x10]; conv => lhs; whnf)
      rw [hx_x10]
      conv => lhs; whnf
      rw [hx_x10]
      conv => lhs; whnf
      obtain ⟨x11, hq_x11, hx_x11', h⟩ := getK_inv h
      have hx_x11 := get_of (r := (rL rPair)) hx_x11'
      try (rw [decide_eq_true hq_x11]; conv => lhs; whnf)
      rw [hx_x11]
      conv => lhs; whnf
      rw [hx_x11]
      conv => lhs; whnf
      obtain ⟨y12, h_y12, h⟩ := callK_inv h
      rw [cl_eq hcl (L_laws_eqPairS x10 x11 h_y12)]
      rotate_left
      · show _ = _; kernel_rfl
      · show _ = _; kernel_rfl
      conv => lhs; whnf
      cases hb13 : y12
      · replace h := ifF h (booF hb13); conv => lhs; whnf
        obtain rfl := Option.some.inj h; show _ = _; kernel_rfl

      · replace h := ifT h hb13; conv => lhs; whnf
        rw [wrap_nat i8 (by have := hn_i8; omega)]
        exact hnx9 _ _ _ _ (fun kk => by kernel_rfl) h
    · clear h
      rintro next_nx9 ⟨⟩ r h
      try dsimp only at h
      have hd_i8 : (decide ((a_0.length : Int) < (a_0.length : Int))) = false := decide_eq_false (by omega)
      conv => lhs; whnf
      try rw [len_of (l := a_0) (r := (rL rPair))]
      rw [hd_i8]
      conv => lhs; whnf
      obtain rfl := Option.some.inj h; show _ = _; kernel_rfl

  · replace h := ifT h (bneT hb1); conv => lhs; whnf
    obtain rfl := Option.some.inj h; show _ = _; kernel_rfl


noncomputable def p_laws_eqRecord (a_0 : Record) (a_1 : Record) : Option Bool :=
  if (a_0.Key.toList == a_1.Key.toList) = true then
    if ¬ a_0.Seq = a_1.Seq then
      some false
    else
      if ¬ a_0.Kind = a_1.Kind then
        some false
      else
        if (a_0.Value.toList == a_1.Value.toList) = true then
          if (a_0.End.toList == a_1.End.toList) = true then
            some true
          else
            some false
        else
          some false
  else
    some false

set_option maxHeartbeats 4000000 in
theorem L_laws_eqRecord (a_0 : Record) (a_1 : Record) {r : Bool} (h : p_laws_eqRecord a_0 a_1 = some r) : callL E 189 [.agg [ST a_0.Key, IN a_0.Seq, IN a_0.Kind, ST a_0.Value, ST a_0.End], .agg [ST a_1.Key, IN a_1.Seq, IN a_1.Kind, ST a_1.Value, ST a_1.End]] ([] : Fo) = some (BO r, ([] : Fo)) := by
  unfold p_laws_eqRecord at h
  refine callW (fu := Try.f189) rfl rfl rfl NN ?_
  intro lp cl hlp hcl
  conv => lhs; whnf
  cases hb1 : (a_0.Key.toList == a_1.Key.toList)
  · replace h := ifF h (booF hb1); conv => lhs; whnf
    obtain rfl := Option.some.inj h; show _ = _; kernel_rfl

  · replace h := ifT h hb1; conv => lhs; whnf
    cases hb2 : (a_0.Seq != a_1.Seq)
    · replace h := ifF h ((fun h => not_not_intro (bneF h)) hb2); conv => lhs; whnf
      cases hb3 : (a_0.Kind != a_1.Kind)
      · replace h := ifF h ((fun h => not_not_intro (bneF h)) hb3); conv => lhs; whnf
        cases hb4 : (a_0.Value.toList == a_1.Value.toList)
        · replace h := ifF h (booF hb4); conv => lhs; whnf
          obtain rfl := Option.some.inj h; show _ = _; kernel_rfl

        · replace h := ifT h hb4; conv => lhs; whnf
          cases hb5 : (a_0.End.toList == a_1.End.toList)
          · replace h := ifF h (booF hb5); conv => lhs; whnf
            obtain rfl := Option.some.inj h; show _ = _; kernel_rfl

          · replace h := ifT h hb5; conv => lhs; whnf
            obtain rfl := Option.some.inj h; show _ = _; kernel_rfl

      · replace h := ifT h (bneT hb3); conv => lhs; whnf
        obtain rfl := Option.some.inj h; show _ = _; kernel_rfl

    · replace h := ifT h (bneT hb2); conv => lhs; whnf
      obtain rfl := Option.some.inj h; show _ = _; kernel_rfl


noncomputable def p_laws_eqRecordS (a_0 : List Record) (a_1 : List Record) : Option Bool :=
  if ¬ (a_0.length : Int) = (a_1.length : Int) then
    some false
  else
    grd (a_0.length < 4611686018427387904) <|
    forK a_0 (fun (i8 : Nat) x10 (_ : Unit) (nx9 : Unit → Option _) =>
      getK a_1 (i8 : Int) fun x11 =>
      callK (p_laws_eqRecord x10 x11) fun y12 =>
      if y12 = true then
        nx9 ()
      else
        some false) () (fun (_ : Unit) =>
      some true)

set_option maxHeartbeats 4000000 in
theorem L_laws_eqRecordS (a_0 : List Record) (a_1 : List Record) {r : Bool} (h : p_laws_eqRecordS a_0 a_1 = some r) : callL E 100 [.d (.arr (a_0.map rRecord)), .d (.arr (a_1.map rRecord))] ([] : Fo) = some (BO r, ([] : Fo)) := by
  unfold p_laws_eqRecordS at h
  refine callW (fu := Try.f100) rfl rfl rfl NN ?_
  intro lp cl hlp hcl
  conv => lhs; whnf
  try rw [len_of (l := a_0) (r := rRecord)]
  try rw [len_of (l := a_1) (r := rRecord)]
  cases hb1 : ((a_0.length : Int) != (a_1.length : Int))
  · replace h := ifF h ((fun h => not_not_intro (bneF h)) hb1); conv => lhs; whnf
    obtain ⟨hl_i8, h⟩ := grd_inv h
    refine loop_for hlp (l := a_0) hl_i8 (fun (i8 : Nat) (_ : Unit) => ([.d (.arr (a_0.map rRecord)), .d (.arr (a_1.map rRecord)), .dead, .dead, .dead, IN (i8 : Int)] ++ List.replicate 21 .dead : List V)) (fun (i8 : Nat) (_ : Unit) => ([] : Fo)) (fun (r : Bool) => ((BO r : V), ([] : Fo))) ?_ ?_ () _ (fun kk => by kernel_rfl) h
    · clear h
      rintro next_nx9 nx9 i8 hi_i8 hnx9 ⟨⟩ r h
      try dsimp only at h
      have hn_i8 : i8 < 4611686018427387904 := by omega
      have hx_x10 := get_map rRecord a_0 i8 hi_i8
      generalize a_0[i8] = x10 at h hx_x10
      have hd_i8 : (decide ((i8 : Int) < (a_0.length : Int))) = true := decide_eq_true (by omega)
      conv => lhs; whnf
      try rw [len_of (l := a_0) (r := rRecord)]
      rw [hd_i8]
      conv => lhs; whnf
      try (rw [decide_eq_true hq_x10]; conv => lhs; whnf)
      rw [hx_x10]
      conv => lhs; whnf
      rw [hx_x10]
      conv => lhs; whnf
      obtain ⟨x11, hq_x11, hx_x11', h⟩ := getK_inv h
      have hx_x11 := get_of (r := rRecord) hx_x11'
      try (rw [decide_eq_true hq_x11]; conv => lhs; whnf)
      rw [hx_x11]
      conv => lhs; whnf
      rw [hx_x11]
      conv => lhs; whnf
      obtain ⟨y12, h_y12, h⟩ := callK_inv h
      rw [cl_eq hcl (L_laws_eqRecord x10 x11 h_y12)]
      rotate_left
      · show _ = _; kernel_rfl
      · show _ = _; kernel_rfl
      conv => lhs; whnf
      cases hb13 : y12
      · replace h := ifF h (booF hb13); conv => lhs; whnf
        obtain rfl := Option.some.inj h; show _ = _; kernel_rfl

      · replace h := ifT h hb13; conv => lhs; whnf
        rw [wrap_nat i8 (by have := hn_i8; omega)]
        exact hnx9 _ _ _ _ (fun kk => by kernel_rfl) h
    · clear h
      rintro next_nx9 ⟨⟩ r h
      try dsimp only at h
      have hd_i8 : (decide ((a_0.length : Int) < (a_0.length : Int))) = false := decide_eq_false (by omega)
      conv => lhs; whnf
      try rw [len_of (l := a_0) (r := rRecord)]
      rw [hd_i8]
      conv => lhs; whnf
      obtain rfl := Option.some.inj h; show _ = _; kernel_rfl

  · replace h := ifT h (bneT hb1); conv => lhs; whnf
    obtain rfl := Option.some.inj h; show _ = _; kernel_rfl


noncomputable def p_laws_eqRecordSS (a_0 : List (List Record)) (a_1 : List (List Record)) : Option Bool :=
  if ¬ (a_0.length : Int) = (a_1.length : Int) then
    some false
  else
    grd (a_0.length < 4611686018427387904) <|
    forK a_0 (fun (i8 : Nat) x10 (_ : Unit) (nx9 : Unit → Option _) =>
      getK a_1 (i8 : Int) fun x11 =>
      callK (p_laws_eqRecordS x10 x11) fun y12 =>
      if y12 = true then
        nx9 ()
      else
        some false) () (fun (_ : Unit) =>
      some true)

set_option maxHeartbeats 4000000 in
theorem L_laws_eqRecordSS (a_0 : List (List Record)) (a_1 : List (List Record)) {r : Bool} (h : p_laws_eqRecordSS a_0 a_1 = some r) : callL E 22 [.d (.arr (a_0.map (rL rRecord))), .d (.arr (a_1.map (rL rRecord)))] ([] : Fo) = some (BO r, ([] : Fo)) := by
  unfold p_laws_eqRecordSS at h
  refine callW (fu := Try.f22) rfl rfl rfl NN ?_
  intro lp cl hlp hcl
  conv => lhs; whnf
  try rw [len_of (l := a_0) (r := (rL rRecord))]
  try rw [len_of (l := a_1) (r := (rL rRecord))]
  cases hb1 : ((a_0.length : Int) != (a_1.length : Int))
  · replace h := ifF h ((fun h => not_not_intro (bneF h)) hb1); conv => lhs; whnf
    obtain ⟨hl_i8, h⟩ := grd_inv h
    refine loop_for hlp (l := a_0) hl_i8 (fun (i8 : Nat) (_ : Unit) => ([.d (.arr (a_0.map (rL rRecord))), .d (.arr (a_1.map (rL rRecord))), .dead, .dead, .dead, IN (i8 : Int)] ++ List.replicate 21 .dead : List V)) (fun (i8 : Nat) (_ : Unit) => ([] : Fo)) (fun (r : Bool) => ((BO r : V), ([] : Fo))) ?_ ?_ () _ (fun kk => by kernel_rfl) h
    · clear h
      rintro next_nx9 nx9 i8 hi_i8 hnx9 ⟨⟩ r h
      try dsimp only at h
      have hn_i8 : i8 < 4611686018427387904 := by omega
      have hx_x10 := get_map (rL rRecord) a_0 i8 hi_i8
      generalize a_0[i8] = x10 at h hx_x10
      have hd_i8 : (decide ((i8 : Int) < (a_0.length : Int))) = true := decide_eq_true (by omega)
      conv => lhs; whnf
      try rw [len_of (l := a_0) (r := (rL rRecord))]
      rw [hd_i8]
      conv => lhs; whnf
      try (rw [decide_eq_true hq_x10]; conv => lhs; whnf)
      rw [hx_x10]
      conv => lhs; whnf
      rw [hx_x10]
      conv => lhs; whnf
      obtain ⟨x11, hq_x11, hx_x11', h⟩ := getK_inv h
      have hx_x11 := get_of (r := (rL rRecord)) hx_x11'
      try (rw [decide_eq_true hq_x11]; conv => lhs; whnf)
      rw [hx_x11]
      conv => lhs; whnf
      rw [hx_x11]
      conv => lhs; whnf
      obtain ⟨y12, h_y12, h⟩ := callK_inv h
      rw [cl_eq hcl (L_laws_eqRecordS x10 x11 h_y12)]
      rotate_left
      · show _ = _; kernel_rfl
      · show _ = _; kernel_rfl
      conv => lhs; whnf
      cases hb13 : y12
      · replace h := ifF h (booF hb13); conv => lhs; whnf
        obtain rfl := Option.some.inj h; show _ = _; kernel_rfl

      · replace h := ifT h hb13; conv => lhs; whnf
        rw [wrap_nat i8 (by have := hn_i8; omega)]
        exact hnx9 _ _ _ _ (fun kk => by kernel_rfl) h
    · clear h
      rintro next_nx9 ⟨⟩ r h
      try dsimp only at h
      have hd_i8 : (decide ((a_0.length : Int) < (a_0.length : Int))) = false := decide_eq_false (by omega)
      conv => lhs; whnf
      try rw [len_of (l := a_0) (r := (rL rRecord))]
      rw [hd_i8]
      conv => lhs; whnf
      obtain rfl := Option.some.inj h; show _ = _; kernel_rfl

  · replace h := ifT h (bneT hb1); conv => lhs; whnf
    obtain rfl := Option.some.inj h; show _ = _; kernel_rfl


noncomputable def p_laws_markText (a_0 : Int) : Option ByteArray :=
  if a_0 ≤ 0 then
    some (⟨#[109, 48]⟩ : ByteArray)
  else
    iterK (fun ((v2, v3) : (Int × ByteArray)) (nx4 : (Int × ByteArray) → Option _) =>
      if v2 > 0 then
        grd (((ByteArray.size (bytesOf ([[.lit (.int .u8 (IntKind.u8.wrap (IntKind.i64.wrap (48 + (Int.tmod v2 10)))))]] : List (List D))) + ByteArray.size v3 : Nat) : Int) ≤ 9223372036854775807) <|
        nx4 ((IntKind.i64.wrap (Int.tdiv v2 10)), ((bytesOf ([[.lit (.int .u8 (IntKind.u8.wrap (IntKind.i64.wrap (48 + (Int.tmod v2 10)))))]] : List (List D))) ++ v3))
      else
        grd (((ByteArray.size (⟨#[109]⟩ : ByteArray) + ByteArray.size v3 : Nat) : Int) ≤ 9223372036854775807) <|
        some ((⟨#[109]⟩ : ByteArray) ++ v3)) NN (a_0, (⟨#[]⟩ : ByteArray))

set_option maxHeartbeats 4000000 in
theorem L_laws_markText (a_0 : Int) {r : ByteArray} (h : p_laws_markText a_0 = some r) : callL E 101 [IN a_0] ([] : Fo) = some (ST r, ([] : Fo)) := by
  unfold p_laws_markText at h
  refine callW (fu := Try.f101) rfl rfl rfl NN ?_
  intro lp cl hlp hcl
  conv => lhs; whnf
  cases hb1 : (decide (a_0 ≤ 0))
  · replace h := ifF h (decF hb1); conv => lhs; whnf
    refine loop_iter hlp (fun ((v2, v3) : (Int × ByteArray)) => ([IN v2, .dead, .dead, ST v3] ++ List.replicate 16 .dead : List V)) (fun ((v2, v3) : (Int × ByteArray)) => ([] : Fo)) (fun (r : ByteArray) => ((ST r : V), ([] : Fo))) ?_ (a_0, (⟨#[]⟩ : ByteArray)) _ (fun kk => by kernel_rfl) h
    clear h
    rintro next_nx4 nx4 hnx4 ⟨v2, v3⟩ r h
    try dsimp only at h
    conv => lhs; whnf
    cases hb5 : (decide (v2 > 0))
    · replace h := ifF h (decF hb5); conv => lhs; whnf
      obtain ⟨hg6, h⟩ := grd_inv h
      rw [cat_run _ _ _ hg6]
      conv => lhs; whnf
      obtain rfl := Option.some.inj h; show _ = _; kernel_rfl

    · replace h := ifT h (decT hb5); conv => lhs; whnf
      try (rw [rem_run _ _ _ 10 (by decide)]; conv => lhs; whnf)
      conv => lhs; whnf
      obtain ⟨hg7, h⟩ := grd_inv h
      rw [cat_run _ _ _ hg7]
      conv => lhs; whnf
      try (rw [quo_run _ _ _ 10 (by decide)]; conv => lhs; whnf)
      conv => lhs; whnf
      exact hnx4 _ _ _ _ (fun kk => by kernel_rfl) h
  · replace h := ifT h (decT hb1); conv => lhs; whnf
    obtain rfl := Option.some.inj h; show _ = _; kernel_rfl


noncomputable def p_laws_markPairS (a_0 : Int) (a_1 : List Pair) : Option (Int × (List Pair)) :=
  iterK (fun ((v1, v2, v3) : (Int × Int × (List Pair))) (nx4 : (Int × Int × (List Pair)) → Option _) =>
    if v2 < (v3.length : Int) then
      callK (p_laws_markText v1) fun y6 =>
      getK v3 v2 fun x7 =>
      callK (p_laws_markText (IntKind.i64.wrap (v1 + 1))) fun y8 =>
      getK (v3.set (Int.toNat v2) (⟨y6, x7.Value⟩ : Pair)) v2 fun x9 =>
      nx4 ((IntKind.i64.wrap ((IntKind.i64.wrap (v1 + 1)) + 1)), (IntKind.i64.wrap (v2 + 1)), ((v3.set (Int.toNat v2) (⟨y6, x7.Value⟩ : Pair)).set (Int.toNat v2) (⟨x9.Key, y8⟩ : Pair)))
    else
      some (v1, v3)) NN (a_0, 0, a_1)

set_option maxHeartbeats 4000000 in
theorem L_laws_markPairS (a_0 : Int) (a_1 : List Pair) {r : (Int × (List Pair))} (h : p_laws_markPairS a_0 a_1 = some r) : callL E 23 [.sl 0, IN a_0] ([some (.arr 148 2 (a_1.map rPair))] : Fo) = some (IN r.1, ([some (.arr 148 2 (r.2.map rPair))] : Fo)) := by
  unfold p_laws_markPairS at h
  refine callW (fu := Try.f23) rfl rfl rfl NN ?_
  intro lp cl hlp hcl
  conv => lhs; whnf
  refine loop_iter hlp (fun ((v1, v2, v3) : (Int × Int × (List Pair))) => ([.sl 0, IN v1, .dead, .dead, .dead, IN v2] ++ List.replicate 23 .dead : List V)) (fun ((v1, v2, v3) : (Int × Int × (List Pair))) => ([some (.arr 148 2 (v3.map rPair))] : Fo)) (fun (r : (Int × (List Pair))) => ((IN r.1 : V), ([some (.arr 148 2 (r.2.map rPair))] : Fo))) ?_ (a_0, 0, a_1) _ (fun kk => by kernel_rfl) h
  clear h
  rintro next_nx4 nx4 hnx4 ⟨v1, v2, v3⟩ r h
  try dsimp only at h
  conv => lhs; whnf
  try rw [len_of (l := v3) (r := rPair)]
  cases hb5 : (decide (v2 < (v3.length : Int)))
  · replace h := ifF h (decF hb5); conv => lhs; whnf
    obtain rfl := Option.some.inj h; show _ = _; kernel_rfl

  · replace h := ifT h (decT hb5); conv => lhs; whnf
    obtain ⟨y6, h_y6, h⟩ := callK_inv h
    rw [cl_eq hcl (L_laws_markText v1 h_y6)]
    rotate_left
    · show _ = _; kernel_rfl
    · show _ = _; kernel_rfl
    conv => lhs; whnf
    obtain ⟨x7, hq_x7, hx_x7', h⟩ := getK_inv h
    have hx_x7 := get_of (r := rPair) hx_x7'
    try (rw [decide_eq_true hq_x7]; conv => lhs; whnf)
    rw [hx_x7]
    conv => lhs; whnf
    rw [hx_x7]
    conv => lhs; whnf
    first | (rw [map_set_of (r := rPair) (l := v3) (x := (⟨y6, x7.Value⟩ : Pair)) ?hh]; case hh => exact rfl) | skip
    obtain ⟨y8, h_y8, h⟩ := callK_inv h
    rw [cl_eq hcl (L_laws_markText (IntKind.i64.wrap (v1 + 1)) h_y8)]
    rotate_left
    · show _ = _; kernel_rfl
    · show _ = _; kernel_rfl
    conv => lhs; whnf
    obtain ⟨x9, hq_x9, hx_x9', h⟩ := getK_inv h
    have hx_x9 := get_of (r := rPair) hx_x9'
    try (rw [decide_eq_true hq_x9]; conv => lhs; whnf)
    rw [hx_x9]
    conv => lhs; whnf
    rw [hx_x9]
    conv => lhs; whnf
    first | (rw [map_set_of (r := rPair) (l := (v3.set (Int.toNat v2) (⟨y6, x7.Value⟩ : Pair))) (x := (⟨x9.Key, y8⟩ : Pair)) ?hh]; case hh => exact rfl) | skip
    exact hnx4 _ _ _ _ (fun kk => by kernel_rfl) h

noncomputable def p_laws_markRecordS (a_0 : Nat) (a_1 : Int) (a_2 : List (List Record)) : Option (Int × (List (List Record))) :=
  iterK (fun ((v1, v2, v3) : (Int × Int × (List (List Record)))) (nx4 : (Int × Int × (List (List Record))) → Option _) =>
    getN v3 a_0 fun x5 =>
    if v2 < (x5.length : Int) then
      callK (p_laws_markText v1) fun y7 =>
      getK x5 v2 fun x8 =>
      getN (v3.set a_0 (x5.set (Int.toNat v2) (⟨y7, x8.Seq, x8.Kind, x8.Value, x8.End⟩ : Record))) a_0 fun x9 =>
      getK x9 v2 fun x10 =>
      getN ((v3.set a_0 (x5.set (Int.toNat v2) (⟨y7, x8.Seq, x8.Kind, x8.Value, x8.End⟩ : Record))).set a_0 (x9.set (Int.toNat v2) (⟨x10.Key, (IntKind.i64.wrap (v1 + 1)), x10.Kind, x10.Value, x10.End⟩ : Record))) a_0 fun x11 =>
      getK x11 v2 fun x12 =>
      callK (p_laws_markText (IntKind.i64.wrap ((IntKind.i64.wrap ((IntKind.i64.wrap (v1 + 1)) + 1)) + 1))) fun y13 =>
      getN (((v3.set a_0 (x5.set (Int.toNat v2) (⟨y7, x8.Seq, x8.Kind, x8.Value, x8.End⟩ : Record))).set a_0 (x9.set (Int.toNat v2) (⟨x10.Key, (IntKind.i64.wrap (v1 + 1)), x10.Kind, x10.Value, x10.End⟩ : Record))).set a_0 (x11.set (Int.toNat v2) (⟨x12.Key, x12.Seq, (IntKind.i64.wrap ((IntKind.i64.wrap (v1 + 1)) + 1)), x12.Value, x12.End⟩ : Record))) a_0 fun x14 =>
      getK x14 v2 fun x15 =>
      callK (p_laws_markText (IntKind.i64.wrap ((IntKind.i64.wrap ((IntKind.i64.wrap ((IntKind.i64.wrap (v1 + 1)) + 1)) + 1)) + 1))) fun y16 =>
      getN ((((v3.set a_0 (x5.set (Int.toNat v2) (⟨y7, x8.Seq, x8.Kind, x8.Value, x8.End⟩ : Record))).set a_0 (x9.set (Int.toNat v2) (⟨x10.Key, (IntKind.i64.wrap (v1 + 1)), x10.Kind, x10.Value, x10.End⟩ : Record))).set a_0 (x11.set (Int.toNat v2) (⟨x12.Key, x12.Seq, (IntKind.i64.wrap ((IntKind.i64.wrap (v1 + 1)) + 1)), x12.Value, x12.End⟩ : Record))).set a_0 (x14.set (Int.toNat v2) (⟨x15.Key, x15.Seq, x15.Kind, y13, x15.End⟩ : Record))) a_0 fun x17 =>
      getK x17 v2 fun x18 =>
      nx4 ((IntKind.i64.wrap ((IntKind.i64.wrap ((IntKind.i64.wrap ((IntKind.i64.wrap ((IntKind.i64.wrap (v1 + 1)) + 1)) + 1)) + 1)) + 1)), (IntKind.i64.wrap (v2 + 1)), (((((v3.set a_0 (x5.set (Int.toNat v2) (⟨y7, x8.Seq, x8.Kind, x8.Value, x8.End⟩ : Record))).set a_0 (x9.set (Int.toNat v2) (⟨x10.Key, (IntKind.i64.wrap (v1 + 1)), x10.Kind, x10.Value, x10.End⟩ : Record))).set a_0 (x11.set (Int.toNat v2) (⟨x12.Key, x12.Seq, (IntKind.i64.wrap ((IntKind.i64.wrap (v1 + 1)) + 1)), x12.Value, x12.End⟩ : Record))).set a_0 (x14.set (Int.toNat v2) (⟨x15.Key, x15.Seq, x15.Kind, y13, x15.End⟩ : Record))).set a_0 (x17.set (Int.toNat v2) (⟨x18.Key, x18.Seq, x18.Kind, x18.Value, y16⟩ : Record))))
    else
      some (v1, v3)) NN (a_1, 0, a_2)

set_option maxHeartbeats 4000000 in
theorem L_laws_markRecordS (a_0 : Nat) (a_1 : Int) (a_2 : List (List Record)) {r : (Int × (List (List Record)))} (h : p_laws_markRecordS a_0 a_1 a_2 = some r) : callL E 102 [.ns 0 a_0 0, IN a_1] ([some (.nst ⟨143, 1, 0, 145, 5⟩ a_2.length (a_2.map (rL rRecord)))] : Fo) = some (IN r.1, ([some (.nst ⟨143, 1, 0, 145, 5⟩ r.2.length (r.2.map (rL rRecord)))] : Fo)) := by
  unfold p_laws_markRecordS at h
  refine callW (fu := Try.f102) rfl rfl rfl NN ?_
  intro lp cl hlp hcl
  conv => lhs; whnf
  refine loop_iter hlp (fun ((v1, v2, v3) : (Int × Int × (List (List Record)))) => ([.ns 0 a_0 0, IN v1, .dead, .dead, .dead, IN v2] ++ List.replicate 45 .dead : List V)) (fun ((v1, v2, v3) : (Int × Int × (List (List Record)))) => ([some (.nst ⟨143, 1, 0, 145, 5⟩ v3.length (v3.map (rL rRecord)))] : Fo)) (fun (r : (Int × (List (List Record)))) => ((IN r.1 : V), ([some (.nst ⟨143, 1, 0, 145, 5⟩ r.2.length (r.2.map (rL rRecord)))] : Fo))) ?_ (a_1, 0, a_2) _ (fun kk => by kernel_rfl) h
  clear h
  rintro next_nx4 nx4 hnx4 ⟨v1, v2, v3⟩ r h
  try dsimp only at h
  conv => lhs; whnf
  obtain ⟨x5, hx_x5', h⟩ := getN_inv h
  have hx_x5 := get_of (r := (rL rRecord)) hx_x5'
  conv => lhs; whnf
  conv => lhs; whnf
  rw [lenV_ns (r := 0) (i := a_0) (c := 0) ?hv ?hr hx_x5 ?hc]
  case hv => exact rfl
  case hr => exact rfl
  case hc => exact rfl
  conv => lhs; whnf
  try rw [len_of (l := x5) (r := rRecord)]
  cases hb6 : (decide (v2 < (x5.length : Int)))
  · replace h := ifF h (decF hb6); conv => lhs; whnf
    obtain rfl := Option.some.inj h; show _ = _; kernel_rfl

  · replace h := ifT h (decT hb6); conv => lhs; whnf
    obtain ⟨y7, h_y7, h⟩ := callK_inv h
    rw [cl_eq hcl (L_laws_markText v1 h_y7)]
    rotate_left
    · show _ = _; kernel_rfl
    · show _ = _; kernel_rfl
    conv => lhs; whnf
    rw [hx_x5]
    conv => lhs; whnf
    obtain ⟨x8, hq_x8, hx_x8', h⟩ := getK_inv h
    have hx_x8 := get_of (r := rRecord) hx_x8'
    try (rw [decide_eq_true hq_x8]; conv => lhs; whnf)
    rw [hx_x8]
    conv => lhs; whnf
    rw [hx_x5]
    conv => lhs; whnf
    rw [hx_x8]
    conv => lhs; whnf
    first | (rw [map_set_of (r := rRecord) (l := x5) (x := (⟨y7, x8.Seq, x8.Kind, x8.Value, x8.End⟩ : Record)) ?hh]; case hh => exact rfl) | skip
    first | (rw [map_set_of (r := (rL rRecord)) (l := v3) (x := (x5.set (Int.toNat v2) (⟨y7, x8.Seq, x8.Kind, x8.Value, x8.End⟩ : Record))) ?hh]; case hh => exact rfl) | skip
    obtain ⟨x9, hx_x9', h⟩ := getN_inv h
    have hx_x9 := get_of (r := (rL rRecord)) hx_x9'
    rw [hx_x9]
    conv => lhs; whnf
    obtain ⟨x10, hq_x10, hx_x10', h⟩ := getK_inv h
    have hx_x10 := get_of (r := rRecord) hx_x10'
    try (rw [decide_eq_true hq_x10]; conv => lhs; whnf)
    rw [hx_x10]
    conv => lhs; whnf
    rw [hx_x9]
    conv => lhs; whnf
    rw [hx_x10]
    conv => lhs; whnf
    first | (rw [map_set_of (r := rRecord) (l := x9) (x := (⟨x10.Key, (IntKind.i64.wrap (v1 + 1)), x10.Kind, x10.Value, x10.End⟩ : Record)) ?hh]; case hh => exact rfl) | skip
    first | (rw [map_set_of (r := (rL rRecord)) (l := (v3.set a_0 (x5.set (Int.toNat v2) (⟨y7, x8.Seq, x8.Kind, x8.Value, x8.End⟩ : Record)))) (x := (x9.set (Int.toNat v2) (⟨x10.Key, (IntKind.i64.wrap (v1 + 1)), x10.Kind, x10.Value, x10.End⟩ : Record))) ?hh]; case hh => exact rfl) | skip
    obtain ⟨x11, hx_x11', h⟩ := getN_inv h
    have hx_x11 := get_of (r := (rL rRecord)) hx_x11'
    rw [hx_x11]
    conv => lhs; whnf
    obtain ⟨x12, hq_x12, hx_x12', h⟩ := getK_inv h
    have hx_x12 := get_of (r := rRecord) hx_x12'
    try (rw [decide_eq_true hq_x12]; conv => lhs; whnf)
    rw [hx_x12]
    conv => lhs; whnf
    rw [hx_x11]
    conv => lhs; whnf
    rw [hx_x12]
    conv => lhs; whnf
    first | (rw [map_set_of (r := rRecord) (l := x11) (x := (⟨x12.Key, x12.Seq, (IntKind.i64.wrap ((IntKind.i64.wrap (v1 + 1)) + 1)), x12.Value, x12.End⟩ : Record)) ?hh]; case hh => exact rfl) | skip
    first | (rw [map_set_of (r := (rL rRecord)) (l := ((v3.set a_0 (x5.set (Int.toNat v2) (⟨y7, x8.Seq, x8.Kind, x8.Value, x8.End⟩ : Record))).set a_0 (x9.set (Int.toNat v2) (⟨x10.Key, (IntKind.i64.wrap (v1 + 1)), x10.Kind, x10.Value, x10.End⟩ : Record)))) (x := (x11.set (Int.toNat v2) (⟨x12.Key, x12.Seq, (IntKind.i64.wrap ((IntKind.i64.wrap (v1 + 1)) + 1)), x12.Value, x12.End⟩ : Record))) ?hh]; case hh => exact rfl) | skip
    obtain ⟨y13, h_y13, h⟩ := callK_inv h
    rw [cl_eq hcl (L_laws_markText (IntKind.i64.wrap ((IntKind.i64.wrap ((IntKind.i64.wrap (v1 + 1)) + 1)) + 1)) h_y13)]
    rotate_left
    · show _ = _; kernel_rfl
    · (try simp only [List.length_set, List.length_append, List.length_cons, List.length_nil, Nat.zero_add]); kernel_rfl
    conv => lhs; whnf
    obtain ⟨x14, hx_x14', h⟩ := getN_inv h
    have hx_x14 := get_of (r := (rL rRecord)) hx_x14'
    rw [hx_x14]
    conv => lhs; whnf
    obtain ⟨x15, hq_x15, hx_x15', h⟩ := getK_inv h
    have hx_x15 := get_of (r := rRecord) hx_x15'
    try (rw [decide_eq_true hq_x15]; conv => lhs; whnf)
    rw [hx_x15]
    conv => lhs; whnf
    rw [hx_x14]
    conv => lhs; whnf
    rw [hx_x15]
    conv => lhs; whnf
    first | (rw [map_set_of (r := rRecord) (l := x14) (x := (⟨x15.Key, x15.Seq, x15.Kind, y13, x15.End⟩ : Record)) ?hh]; case hh => exact rfl) | skip
    first | (rw [map_set_of (r := (rL rRecord)) (l := (((v3.set a_0 (x5.set (Int.toNat v2) (⟨y7, x8.Seq, x8.Kind, x8.Value, x8.End⟩ : Record))).set a_0 (x9.set (Int.toNat v2) (⟨x10.Key, (IntKind.i64.wrap (v1 + 1)), x10.Kind, x10.Value, x10.End⟩ : Record))).set a_0 (x11.set (Int.toNat v2) (⟨x12.Key, x12.Seq, (IntKind.i64.wrap ((IntKind.i64.wrap (v1 + 1)) + 1)), x12.Value, x12.End⟩ : Record)))) (x := (x14.set (Int.toNat v2) (⟨x15.Key, x15.Seq, x15.Kind, y13, x15.End⟩ : Record))) ?hh]; case hh => exact rfl) | skip
    obtain ⟨y16, h_y16, h⟩ := callK_inv h
    rw [cl_eq hcl (L_laws_markText (IntKind.i64.wrap ((IntKind.i64.wrap ((IntKind.i64.wrap ((IntKind.i64.wrap (v1 + 1)) + 1)) + 1)) + 1)) h_y16)]
    rotate_left
    · show _ = _; kernel_rfl
    · (try simp only [List.length_set, List.length_append, List.length_cons, List.length_nil, Nat.zero_add]); kernel_rfl
    conv => lhs; whnf
    obtain ⟨x17, hx_x17', h⟩ := getN_inv h
    have hx_x17 := get_of (r := (rL rRecord)) hx_x17'
    rw [hx_x17]
    conv => lhs; whnf
    obtain ⟨x18, hq_x18, hx_x18', h⟩ := getK_inv h
    have hx_x18 := get_of (r := rRecord) hx_x18'
    try (rw [decide_eq_true hq_x18]; conv => lhs; whnf)
    rw [hx_x18]
    conv => lhs; whnf
    rw [hx_x17]
    conv => lhs; whnf
    rw [hx_x18]
    conv => lhs; whnf
    first | (rw [map_set_of (r := rRecord) (l := x17) (x := (⟨x18.Key, x18.Seq, x18.Kind, x18.Value, y16⟩ : Record)) ?hh]; case hh => exact rfl) | skip
    first | (rw [map_set_of (r := (rL rRecord)) (l := ((((v3.set a_0 (x5.set (Int.toNat v2) (⟨y7, x8.Seq, x8.Kind, x8.Value, x8.End⟩ : Record))).set a_0 (x9.set (Int.toNat v2) (⟨x10.Key, (IntKind.i64.wrap (v1 + 1)), x10.Kind, x10.Value, x10.End⟩ : Record))).set a_0 (x11.set (Int.toNat v2) (⟨x12.Key, x12.Seq, (IntKind.i64.wrap ((IntKind.i64.wrap (v1 + 1)) + 1)), x12.Value, x12.End⟩ : Record))).set a_0 (x14.set (Int.toNat v2) (⟨x15.Key, x15.Seq, x15.Kind, y13, x15.End⟩ : Record)))) (x := (x17.set (Int.toNat v2) (⟨x18.Key, x18.Seq, x18.Kind, x18.Value, y16⟩ : Record))) ?hh]; case hh => exact rfl) | skip
    exact hnx4 _ _ _ _ (fun kk => by (try simp only [List.length_set, List.length_append, List.length_cons, List.length_nil, Nat.zero_add]); kernel_rfl) h

noncomputable def p_laws_markRecordSS (a_0 : Int) (a_1 : List (List Record)) : Option (Int × (List (List Record))) :=
  iterK (fun ((v1, v2, v3) : (Int × Int × (List (List Record)))) (nx4 : (Int × Int × (List (List Record))) → Option _) =>
    if v2 < (v3.length : Int) then
      getK v3 v2 fun x6 =>
      callK (p_laws_markRecordS (Int.toNat v2) v1 v3) fun y7 =>
      nx4 (y7.1, (IntKind.i64.wrap (v2 + 1)), y7.2)
    else
      some (v1, v3)) NN (a_0, 0, a_1)

set_option maxHeartbeats 4000000 in
theorem L_laws_markRecordSS (a_0 : Int) (a_1 : List (List Record)) {r : (Int × (List (List Record)))} (h : p_laws_markRecordSS a_0 a_1 = some r) : callL E 24 [.nsl 0, IN a_0] ([some (.nst ⟨143, 1, 0, 145, 5⟩ a_1.length (a_1.map (rL rRecord)))] : Fo) = some (IN r.1, ([some (.nst ⟨143, 1, 0, 145, 5⟩ r.2.length (r.2.map (rL rRecord)))] : Fo)) := by
  unfold p_laws_markRecordSS at h
  refine callW (fu := Try.f24) rfl rfl rfl NN ?_
  intro lp cl hlp hcl
  conv => lhs; whnf
  refine loop_iter hlp (fun ((v1, v2, v3) : (Int × Int × (List (List Record)))) => ([.nsl 0, IN v1, .dead, .dead, .dead, IN v2] ++ List.replicate 13 .dead : List V)) (fun ((v1, v2, v3) : (Int × Int × (List (List Record)))) => ([some (.nst ⟨143, 1, 0, 145, 5⟩ v3.length (v3.map (rL rRecord)))] : Fo)) (fun (r : (Int × (List (List Record)))) => ((IN r.1 : V), ([some (.nst ⟨143, 1, 0, 145, 5⟩ r.2.length (r.2.map (rL rRecord)))] : Fo))) ?_ (a_0, 0, a_1) _ (fun kk => by kernel_rfl) h
  clear h
  rintro next_nx4 nx4 hnx4 ⟨v1, v2, v3⟩ r h
  try dsimp only at h
  conv => lhs; whnf
  try rw [len_of (l := v3) (r := (rL rRecord))]
  cases hb5 : (decide (v2 < (v3.length : Int)))
  · replace h := ifF h (decF hb5); conv => lhs; whnf
    obtain rfl := Option.some.inj h; show _ = _; kernel_rfl

  · replace h := ifT h (decT hb5); conv => lhs; whnf
    obtain ⟨x6, hq_x6, hx_x6', h⟩ := getK_inv h
    have hx_x6 := get_of (r := (rL rRecord)) hx_x6'
    try (rw [decide_eq_true hq_x6]; conv => lhs; whnf)
    rw [hx_x6]
    conv => lhs; whnf
    rw [hx_x6]
    conv => lhs; whnf
    conv => lhs; whnf
    try (rw [blt_of_len (n := v3.length) hx_x6 (by simp only [List.length_set, List.length_append, List.length_cons, List.length_nil, Nat.zero_add])]; conv => lhs; whnf)
    obtain ⟨y7, h_y7, h⟩ := callK_inv h
    rw [cl_eq hcl (L_laws_markRecordS (Int.toNat v2) v1 v3 h_y7)]
    rotate_left
    · show _ = _; kernel_rfl
    · show _ = _; kernel_rfl
    conv => lhs; whnf
    exact hnx4 _ _ _ _ (fun kk => by kernel_rfl) h

noncomputable def p_laws_markPairS' (a_0 : Nat) (a_1 : Int) (a_2 : List (List Pair)) : Option (Int × (List (List Pair))) :=
  iterK (fun ((v1, v2, v3) : (Int × Int × (List (List Pair)))) (nx4 : (Int × Int × (List (List Pair))) → Option _) =>
    getN v3 a_0 fun x5 =>
    if v2 < (x5.length : Int) then
      callK (p_laws_markText v1) fun y7 =>
      getK x5 v2 fun x8 =>
      callK (p_laws_markText (IntKind.i64.wrap (v1 + 1))) fun y9 =>
      getN (v3.set a_0 (x5.set (Int.toNat v2) (⟨y7, x8.Value⟩ : Pair))) a_0 fun x10 =>
      getK x10 v2 fun x11 =>
      nx4 ((IntKind.i64.wrap ((IntKind.i64.wrap (v1 + 1)) + 1)), (IntKind.i64.wrap (v2 + 1)), ((v3.set a_0 (x5.set (Int.toNat v2) (⟨y7, x8.Value⟩ : Pair))).set a_0 (x10.set (Int.toNat v2) (⟨x11.Key, y9⟩ : Pair))))
    else
      some (v1, v3)) NN (a_1, 0, a_2)

set_option maxHeartbeats 4000000 in
theorem L_laws_markPairS' (a_0 : Nat) (a_1 : Int) (a_2 : List (List Pair)) {r : (Int × (List (List Pair)))} (h : p_laws_markPairS' a_0 a_1 a_2 = some r) : callL E 23 [.ns 0 a_0 0, IN a_1] ([some (.nst ⟨28, 1, 0, 148, 2⟩ a_2.length (a_2.map (rL rPair)))] : Fo) = some (IN r.1, ([some (.nst ⟨28, 1, 0, 148, 2⟩ r.2.length (r.2.map (rL rPair)))] : Fo)) := by
  unfold p_laws_markPairS' at h
  refine callW (fu := Try.f23) rfl rfl rfl NN ?_
  intro lp cl hlp hcl
  conv => lhs; whnf
  refine loop_iter hlp (fun ((v1, v2, v3) : (Int × Int × (List (List Pair)))) => ([.ns 0 a_0 0, IN v1, .dead, .dead, .dead, IN v2] ++ List.replicate 23 .dead : List V)) (fun ((v1, v2, v3) : (Int × Int × (List (List Pair)))) => ([some (.nst ⟨28, 1, 0, 148, 2⟩ v3.length (v3.map (rL rPair)))] : Fo)) (fun (r : (Int × (List (List Pair)))) => ((IN r.1 : V), ([some (.nst ⟨28, 1, 0, 148, 2⟩ r.2.length (r.2.map (rL rPair)))] : Fo))) ?_ (a_1, 0, a_2) _ (fun kk => by kernel_rfl) h
  clear h
  rintro next_nx4 nx4 hnx4 ⟨v1, v2, v3⟩ r h
  try dsimp only at h
  conv => lhs; whnf
  obtain ⟨x5, hx_x5', h⟩ := getN_inv h
  have hx_x5 := get_of (r := (rL rPair)) hx_x5'
  conv => lhs; whnf
  conv => lhs; whnf
  rw [lenV_ns (r := 0) (i := a_0) (c := 0) ?hv ?hr hx_x5 ?hc]
  case hv => exact rfl
  case hr => exact rfl
  case hc => exact rfl
  conv => lhs; whnf
  try rw [len_of (l := x5) (r := rPair)]
  cases hb6 : (decide (v2 < (x5.length : Int)))
  · replace h := ifF h (decF hb6); conv => lhs; whnf
    obtain rfl := Option.some.inj h; show _ = _; kernel_rfl

  · replace h := ifT h (decT hb6); conv => lhs; whnf
    obtain ⟨y7, h_y7, h⟩ := callK_inv h
    rw [cl_eq hcl (L_laws_markText v1 h_y7)]
    rotate_left
    · show _ = _; kernel_rfl
    · show _ = _; kernel_rfl
    conv => lhs; whnf
    rw [hx_x5]
    conv => lhs; whnf
    obtain ⟨x8, hq_x8, hx_x8', h⟩ := getK_inv h
    have hx_x8 := get_of (r := rPair) hx_x8'
    try (rw [decide_eq_true hq_x8]; conv => lhs; whnf)
    rw [hx_x8]
    conv => lhs; whnf
    rw [hx_x5]
    conv => lhs; whnf
    rw [hx_x8]
    conv => lhs; whnf
    first | (rw [map_set_of (r := rPair) (l := x5) (x := (⟨y7, x8.Value⟩ : Pair)) ?hh]; case hh => exact rfl) | skip
    first | (rw [map_set_of (r := (rL rPair)) (l := v3) (x := (x5.set (Int.toNat v2) (⟨y7, x8.Value⟩ : Pair))) ?hh]; case hh => exact rfl) | skip
    obtain ⟨y9, h_y9, h⟩ := callK_inv h
    rw [cl_eq hcl (L_laws_markText (IntKind.i64.wrap (v1 + 1)) h_y9)]
    rotate_left
    · show _ = _; kernel_rfl
    · (try simp only [List.length_set, List.length_append, List.length_cons, List.length_nil, Nat.zero_add]); kernel_rfl
    conv => lhs; whnf
    obtain ⟨x10, hx_x10', h⟩ := getN_inv h
    have hx_x10 := get_of (r := (rL rPair)) hx_x10'
    rw [hx_x10]
    conv => lhs; whnf
    obtain ⟨x11, hq_x11, hx_x11', h⟩ := getK_inv h
    have hx_x11 := get_of (r := rPair) hx_x11'
    try (rw [decide_eq_true hq_x11]; conv => lhs; whnf)
    rw [hx_x11]
    conv => lhs; whnf
    rw [hx_x10]
    conv => lhs; whnf
    rw [hx_x11]
    conv => lhs; whnf
    first | (rw [map_set_of (r := rPair) (l := x10) (x := (⟨x11.Key, y9⟩ : Pair)) ?hh]; case hh => exact rfl) | skip
    first | (rw [map_set_of (r := (rL rPair)) (l := (v3.set a_0 (x5.set (Int.toNat v2) (⟨y7, x8.Value⟩ : Pair)))) (x := (x10.set (Int.toNat v2) (⟨x11.Key, y9⟩ : Pair))) ?hh]; case hh => exact rfl) | skip
    exact hnx4 _ _ _ _ (fun kk => by (try simp only [List.length_set, List.length_append, List.length_cons, List.length_nil, Nat.zero_add]); kernel_rfl) h

noncomputable def p_laws_markPairSS (a_0 : Int) (a_1 : List (List Pair)) : Option (Int × (List (List Pair))) :=
  iterK (fun ((v1, v2, v3) : (Int × Int × (List (List Pair)))) (nx4 : (Int × Int × (List (List Pair))) → Option _) =>
    if v2 < (v3.length : Int) then
      getK v3 v2 fun x6 =>
      callK (p_laws_markPairS' (Int.toNat v2) v1 v3) fun y7 =>
      nx4 (y7.1, (IntKind.i64.wrap (v2 + 1)), y7.2)
    else
      some (v1, v3)) NN (a_0, 0, a_1)

set_option maxHeartbeats 4000000 in
theorem L_laws_markPairSS (a_0 : Int) (a_1 : List (List Pair)) {r : (Int × (List (List Pair)))} (h : p_laws_markPairSS a_0 a_1 = some r) : callL E 25 [.nsl 0, IN a_0] ([some (.nst ⟨28, 1, 0, 148, 2⟩ a_1.length (a_1.map (rL rPair)))] : Fo) = some (IN r.1, ([some (.nst ⟨28, 1, 0, 148, 2⟩ r.2.length (r.2.map (rL rPair)))] : Fo)) := by
  unfold p_laws_markPairSS at h
  refine callW (fu := Try.f25) rfl rfl rfl NN ?_
  intro lp cl hlp hcl
  conv => lhs; whnf
  refine loop_iter hlp (fun ((v1, v2, v3) : (Int × Int × (List (List Pair)))) => ([.nsl 0, IN v1, .dead, .dead, .dead, IN v2] ++ List.replicate 13 .dead : List V)) (fun ((v1, v2, v3) : (Int × Int × (List (List Pair)))) => ([some (.nst ⟨28, 1, 0, 148, 2⟩ v3.length (v3.map (rL rPair)))] : Fo)) (fun (r : (Int × (List (List Pair)))) => ((IN r.1 : V), ([some (.nst ⟨28, 1, 0, 148, 2⟩ r.2.length (r.2.map (rL rPair)))] : Fo))) ?_ (a_0, 0, a_1) _ (fun kk => by kernel_rfl) h
  clear h
  rintro next_nx4 nx4 hnx4 ⟨v1, v2, v3⟩ r h
  try dsimp only at h
  conv => lhs; whnf
  try rw [len_of (l := v3) (r := (rL rPair))]
  cases hb5 : (decide (v2 < (v3.length : Int)))
  · replace h := ifF h (decF hb5); conv => lhs; whnf
    obtain rfl := Option.some.inj h; show _ = _; kernel_rfl

  · replace h := ifT h (decT hb5); conv => lhs; whnf
    obtain ⟨x6, hq_x6, hx_x6', h⟩ := getK_inv h
    have hx_x6 := get_of (r := (rL rPair)) hx_x6'
    try (rw [decide_eq_true hq_x6]; conv => lhs; whnf)
    rw [hx_x6]
    conv => lhs; whnf
    rw [hx_x6]
    conv => lhs; whnf
    conv => lhs; whnf
    try (rw [blt_of_len (n := v3.length) hx_x6 (by simp only [List.length_set, List.length_append, List.length_cons, List.length_nil, Nat.zero_add])]; conv => lhs; whnf)
    obtain ⟨y7, h_y7, h⟩ := callK_inv h
    rw [cl_eq hcl (L_laws_markPairS' (Int.toNat v2) v1 v3 h_y7)]
    rotate_left
    · show _ = _; kernel_rfl
    · show _ = _; kernel_rfl
    conv => lhs; whnf
    exact hnx4 _ _ _ _ (fun kk => by kernel_rfl) h

noncomputable def p_laws_heldPairS (a_0 : List Pair) (a_1 : Int) : Option Int :=
  grd (a_0.length < 4611686018427387904) <|
  forK a_0 (fun (i9 : Nat) x12 (v10 : Int) (nx11 : Int → Option _) =>
    callK (p_laws_markText v10) fun y13 =>
    if (x12.Key.toList == y13.toList) = true then
      callK (p_laws_markText (IntKind.i64.wrap (v10 + 1))) fun y15 =>
      if (x12.Value.toList == y15.toList) = true then
        nx11 (IntKind.i64.wrap ((IntKind.i64.wrap (v10 + 1)) + 1))
      else
        some (-1)
    else
      some (-1)) a_1 (fun (v10 : Int) =>
    some v10)

set_option maxHeartbeats 4000000 in
theorem L_laws_heldPairS (a_0 : List Pair) (a_1 : Int) {r : Int} (h : p_laws_heldPairS a_0 a_1 = some r) : callL E 103 [.d (.arr (a_0.map rPair)), IN a_1] ([] : Fo) = some (IN r, ([] : Fo)) := by
  unfold p_laws_heldPairS at h
  refine callW (fu := Try.f103) rfl rfl rfl NN ?_
  intro lp cl hlp hcl
  conv => lhs; whnf
  obtain ⟨hl_i9, h⟩ := grd_inv h
  refine loop_for hlp (l := a_0) hl_i9 (fun (i9 : Nat) (v10 : Int) => ([.d (.arr (a_0.map rPair)), IN v10, .dead, .dead, .dead, IN (i9 : Int)] ++ List.replicate 27 .dead : List V)) (fun (i9 : Nat) (v10 : Int) => ([] : Fo)) (fun (r : Int) => ((IN r : V), ([] : Fo))) ?_ ?_ a_1 _ (fun kk => by kernel_rfl) h
  · clear h
    rintro next_nx11 nx11 i9 hi_i9 hnx11 v10 r h
    try dsimp only at h
    have hn_i9 : i9 < 4611686018427387904 := by omega
    have hx_x12 := get_map rPair a_0 i9 hi_i9
    generalize a_0[i9] = x12 at h hx_x12
    have hd_i9 : (decide ((i9 : Int) < (a_0.length : Int))) = true := decide_eq_true (by omega)
    conv => lhs; whnf
    try rw [len_of (l := a_0) (r := rPair)]
    rw [hd_i9]
    conv => lhs; whnf
    try (rw [decide_eq_true hq_x12]; conv => lhs; whnf)
    rw [hx_x12]
    conv => lhs; whnf
    rw [hx_x12]
    conv => lhs; whnf
    obtain ⟨y13, h_y13, h⟩ := callK_inv h
    rw [cl_eq hcl (L_laws_markText v10 h_y13)]
    rotate_left
    · show _ = _; kernel_rfl
    · show _ = _; kernel_rfl
    conv => lhs; whnf
    cases hb14 : (x12.Key.toList == y13.toList)
    · replace h := ifF h (booF hb14); conv => lhs; whnf
      obtain rfl := Option.some.inj h; show _ = _; kernel_rfl

    · replace h := ifT h hb14; conv => lhs; whnf
      try (rw [decide_eq_true hq_x12]; conv => lhs; whnf)
      rw [hx_x12]
      conv => lhs; whnf
      rw [hx_x12]
      conv => lhs; whnf
      obtain ⟨y15, h_y15, h⟩ := callK_inv h
      rw [cl_eq hcl (L_laws_markText (IntKind.i64.wrap (v10 + 1)) h_y15)]
      rotate_left
      · show _ = _; kernel_rfl
      · show _ = _; kernel_rfl
      conv => lhs; whnf
      cases hb16 : (x12.Value.toList == y15.toList)
      · replace h := ifF h (booF hb16); conv => lhs; whnf
        obtain rfl := Option.some.inj h; show _ = _; kernel_rfl

      · replace h := ifT h hb16; conv => lhs; whnf
        rw [wrap_nat i9 (by have := hn_i9; omega)]
        exact hnx11 _ _ _ _ (fun kk => by kernel_rfl) h
  · clear h
    rintro next_nx11 v10 r h
    try dsimp only at h
    have hd_i9 : (decide ((a_0.length : Int) < (a_0.length : Int))) = false := decide_eq_false (by omega)
    conv => lhs; whnf
    try rw [len_of (l := a_0) (r := rPair)]
    rw [hd_i9]
    conv => lhs; whnf
    obtain rfl := Option.some.inj h; show _ = _; kernel_rfl


noncomputable def p_laws_heldPairSS (a_0 : List (List Pair)) (a_1 : Int) : Option Int :=
  grd (a_0.length < 4611686018427387904) <|
  forK a_0 (fun (i7 : Nat) x10 (v8 : Int) (nx9 : Int → Option _) =>
    callK (p_laws_heldPairS x10 v8) fun y11 =>
    if y11 < 0 then
      some (-1)
    else
      nx9 y11) a_1 (fun (v8 : Int) =>
    some v8)

set_option maxHeartbeats 4000000 in
theorem L_laws_heldPairSS (a_0 : List (List Pair)) (a_1 : Int) {r : Int} (h : p_laws_heldPairSS a_0 a_1 = some r) : callL E 26 [.d (.arr (a_0.map (rL rPair))), IN a_1] ([] : Fo) = some (IN r, ([] : Fo)) := by
  unfold p_laws_heldPairSS at h
  refine callW (fu := Try.f26) rfl rfl rfl NN ?_
  intro lp cl hlp hcl
  conv => lhs; whnf
  obtain ⟨hl_i7, h⟩ := grd_inv h
  refine loop_for hlp (l := a_0) hl_i7 (fun (i7 : Nat) (v8 : Int) => ([.d (.arr (a_0.map (rL rPair))), IN v8, .dead, .dead, .dead, IN (i7 : Int)] ++ List.replicate 15 .dead : List V)) (fun (i7 : Nat) (v8 : Int) => ([] : Fo)) (fun (r : Int) => ((IN r : V), ([] : Fo))) ?_ ?_ a_1 _ (fun kk => by kernel_rfl) h
  · clear h
    rintro next_nx9 nx9 i7 hi_i7 hnx9 v8 r h
    try dsimp only at h
    have hn_i7 : i7 < 4611686018427387904 := by omega
    have hx_x10 := get_map (rL rPair) a_0 i7 hi_i7
    generalize a_0[i7] = x10 at h hx_x10
    have hd_i7 : (decide ((i7 : Int) < (a_0.length : Int))) = true := decide_eq_true (by omega)
    conv => lhs; whnf
    try rw [len_of (l := a_0) (r := (rL rPair))]
    rw [hd_i7]
    conv => lhs; whnf
    try (rw [decide_eq_true hq_x10]; conv => lhs; whnf)
    rw [hx_x10]
    conv => lhs; whnf
    rw [hx_x10]
    conv => lhs; whnf
    obtain ⟨y11, h_y11, h⟩ := callK_inv h
    rw [cl_eq hcl (L_laws_heldPairS x10 v8 h_y11)]
    rotate_left
    · show _ = _; kernel_rfl
    · show _ = _; kernel_rfl
    conv => lhs; whnf
    cases hb12 : (decide (y11 < 0))
    · replace h := ifF h (decF hb12); conv => lhs; whnf
      rw [wrap_nat i7 (by have := hn_i7; omega)]
      exact hnx9 _ _ _ _ (fun kk => by kernel_rfl) h
    · replace h := ifT h (decT hb12); conv => lhs; whnf
      obtain rfl := Option.some.inj h; show _ = _; kernel_rfl

  · clear h
    rintro next_nx9 v8 r h
    try dsimp only at h
    have hd_i7 : (decide ((a_0.length : Int) < (a_0.length : Int))) = false := decide_eq_false (by omega)
    conv => lhs; whnf
    try rw [len_of (l := a_0) (r := (rL rPair))]
    rw [hd_i7]
    conv => lhs; whnf
    obtain rfl := Option.some.inj h; show _ = _; kernel_rfl


noncomputable def p_laws_FnExactStatesAfter (a_0 : List Pair) (a_1 : List (List Record)) : Option Bool :=
  callK (p_laws_szPairS a_0 1048576) fun y1 =>
  if y1 < 0 then
    some true
  else
    callK (p_laws_szRecordSS a_1 y1) fun y3 =>
    if y3 < 0 then
      some true
    else
      callK (p_laws_toPairS a_0) fun y5 =>
      callK (p_laws_toRecordSS a_1) fun y6 =>
      callK (p_spec_StatesAfter y5 y6) fun y7 =>
      callK (p_laws_toPairS a_0) fun y8 =>
      callK (p_laws_toRecordSS a_1) fun y9 =>
      callK (p_impl_StatesAfter y8 y9) fun y10 =>
      callK (p_laws_eqPairSS y10 y7) fun y11 =>
      if y11 = true then
        callK (p_laws_toPairS a_0) fun y13 =>
        callK (p_laws_eqPairS y8 y13) fun y14 =>
        if y14 = true then
          callK (p_laws_toRecordSS a_1) fun y16 =>
          callK (p_laws_eqRecordSS y9 y16) fun y17 =>
          if y17 = true then
            callK (p_laws_markPairS 1 y8) fun y19 =>
            callK (p_laws_markRecordSS y19.1 y9) fun y20 =>
            if y20.1 < 0 then
              some false
            else
              callK (p_laws_eqPairSS y10 y7) fun y22 =>
              if y22 = true then
                callK (p_laws_markPairSS 1 y10) fun y24 =>
                callK (p_laws_heldPairSS y24.2 1) fun y25 =>
                if y25 < 0 then
                  some false
                else
                  if ¬ y25 = y24.1 then
                    some false
                  else
                    callK (p_laws_toPairS a_0) fun y28 =>
                    callK (p_laws_toRecordSS a_1) fun y29 =>
                    callK (p_impl_StatesAfter y28 y29) fun y30 =>
                    callK (p_laws_eqPairSS y30 y7) fun y31 =>
                    if y31 = true then
                      callK (p_laws_heldPairSS y24.2 1) fun y33 =>
                      if y33 < 0 then
                        some false
                      else
                        if ¬ y33 = y24.1 then
                          some false
                        else
                          some true
                    else
                      some false
              else
                some false
          else
            some false
        else
          some false
      else
        some false

set_option maxHeartbeats 4000000 in
theorem L_laws_FnExactStatesAfter (a_0 : List Pair) (a_1 : List (List Record)) {r : Bool} (h : p_laws_FnExactStatesAfter a_0 a_1 = some r) : callL E 3 [.d (.arr (a_0.map rPair)), .d (.arr (a_1.map (rL rRecord)))] ([] : Fo) = some (BO r, ([] : Fo)) := by
  unfold p_laws_FnExactStatesAfter at h
  refine callW (fu := Try.f3) rfl rfl rfl NN ?_
  intro lp cl hlp hcl
  conv => lhs; whnf
  obtain ⟨y1, h_y1, h⟩ := callK_inv h
  rw [cl_eq hcl (L_laws_szPairS a_0 1048576 h_y1)]
  rotate_left
  · show _ = _; kernel_rfl
  · show _ = _; kernel_rfl
  conv => lhs; whnf
  cases hb2 : (decide (y1 < 0))
  · replace h := ifF h (decF hb2); conv => lhs; whnf
    obtain ⟨y3, h_y3, h⟩ := callK_inv h
    rw [cl_eq hcl (L_laws_szRecordSS a_1 y1 h_y3)]
    rotate_left
    · show _ = _; kernel_rfl
    · show _ = _; kernel_rfl
    conv => lhs; whnf
    cases hb4 : (decide (y3 < 0))
    · replace h := ifF h (decF hb4); conv => lhs; whnf
      obtain ⟨y5, h_y5, h⟩ := callK_inv h
      rw [cl_eq hcl (L_laws_toPairS a_0 h_y5)]
      rotate_left
      · show _ = _; kernel_rfl
      · show _ = _; kernel_rfl
      conv => lhs; whnf
      obtain ⟨y6, h_y6, h⟩ := callK_inv h
      rw [cl_eq hcl (L_laws_toRecordSS a_1 h_y6)]
      rotate_left
      · show _ = _; kernel_rfl
      · show _ = _; kernel_rfl
      conv => lhs; whnf
      obtain ⟨y7, h_y7, h⟩ := callK_inv h
      rw [cl_eq hcl (L_spec_StatesAfter y5 y6 h_y7)]
      rotate_left
      · show _ = _; kernel_rfl
      · show _ = _; kernel_rfl
      conv => lhs; whnf
      obtain ⟨y8, h_y8, h⟩ := callK_inv h
      rw [cl_eq hcl (L_laws_toPairS a_0 h_y8)]
      rotate_left
      · show _ = _; kernel_rfl
      · show _ = _; kernel_rfl
      conv => lhs; whnf
      obtain ⟨y9, h_y9, h⟩ := callK_inv h
      rw [cl_eq hcl (L_laws_toRecordSS a_1 h_y9)]
      rotate_left
      · show _ = _; kernel_rfl
      · show _ = _; kernel_rfl
      conv => lhs; whnf
      obtain ⟨y10, h_y10, h⟩ := callK_inv h
      rw [cl_eq hcl (L_impl_StatesAfter y8 y9 h_y10)]
      rotate_left
      · show _ = _; kernel_rfl
      · show _ = _; kernel_rfl
      conv => lhs; whnf
      conv => lhs; whnf
      try (rw [litF_nst (f := (rL rPair)) (g := rPair) (p := fun x => x) (fun _ => rfl) (fun _ => rfl) (fun _ => rfl)]; conv => lhs; whnf)
      obtain ⟨y11, h_y11, h⟩ := callK_inv h
      rw [cl_eq hcl (L_laws_eqPairSS y10 y7 h_y11)]
      rotate_left
      · show _ = _; kernel_rfl
      · show _ = _; kernel_rfl
      conv => lhs; whnf
      cases hb12 : y11
      · replace h := ifF h (booF hb12); conv => lhs; whnf
        obtain rfl := Option.some.inj h; show _ = _; kernel_rfl

      · replace h := ifT h hb12; conv => lhs; whnf
        obtain ⟨y13, h_y13, h⟩ := callK_inv h
        rw [cl_eq hcl (L_laws_toPairS a_0 h_y13)]
        rotate_left
        · show _ = _; kernel_rfl
        · show _ = _; kernel_rfl
        conv => lhs; whnf
        obtain ⟨y14, h_y14, h⟩ := callK_inv h
        rw [cl_eq hcl (L_laws_eqPairS y8 y13 h_y14)]
        rotate_left
        · show _ = _; kernel_rfl
        · show _ = _; kernel_rfl
        conv => lhs; whnf
        cases hb15 : y14
        · replace h := ifF h (booF hb15); conv => lhs; whnf
          obtain rfl := Option.some.inj h; show _ = _; kernel_rfl

        · replace h := ifT h hb15; conv => lhs; whnf
          obtain ⟨y16, h_y16, h⟩ := callK_inv h
          rw [cl_eq hcl (L_laws_toRecordSS a_1 h_y16)]
          rotate_left
          · show _ = _; kernel_rfl
          · show _ = _; kernel_rfl
          conv => lhs; whnf
          obtain ⟨y17, h_y17, h⟩ := callK_inv h
          rw [cl_eq hcl (L_laws_eqRecordSS y9 y16 h_y17)]
          rotate_left
          · show _ = _; kernel_rfl
          · show _ = _; kernel_rfl
          conv => lhs; whnf
          cases hb18 : y17
          · replace h := ifF h (booF hb18); conv => lhs; whnf
            obtain rfl := Option.some.inj h; show _ = _; kernel_rfl

          · replace h := ifT h hb18; conv => lhs; whnf
            obtain ⟨y19, h_y19, h⟩ := callK_inv h
            rw [cl_eq hcl (L_laws_markPairS 1 y8 h_y19)]
            rotate_left
            · show _ = _; kernel_rfl
            · show _ = _; kernel_rfl
            conv => lhs; whnf
            obtain ⟨y20, h_y20, h⟩ := callK_inv h
            rw [cl_eq hcl (L_laws_markRecordSS y19.1 y9 h_y20)]
            rotate_left
            · show _ = _; kernel_rfl
            · show _ = _; kernel_rfl
            conv => lhs; whnf
            cases hb21 : (decide (y20.1 < 0))
            · replace h := ifF h (decF hb21); conv => lhs; whnf
              try (rw [hb21]; conv => lhs; whnf)
              try (rw [hb21]; conv => lhs; whnf)
              obtain ⟨y22, h_y22, h⟩ := callK_inv h
              rw [cl_eq hcl (L_laws_eqPairSS y10 y7 h_y22)]
              rotate_left
              · show _ = _; kernel_rfl
              · show _ = _; kernel_rfl
              conv => lhs; whnf
              try (rw [hb21]; conv => lhs; whnf)
              try (rw [hb21]; conv => lhs; whnf)
              cases hb23 : y22
              · replace h := ifF h (booF hb23); conv => lhs; whnf
                obtain rfl := Option.some.inj h; show _ = _; kernel_rfl

              · replace h := ifT h hb23; conv => lhs; whnf
                obtain ⟨y24, h_y24, h⟩ := callK_inv h
                rw [cl_eq hcl (L_laws_markPairSS 1 y10 h_y24)]
                rotate_left
                · show _ = _; kernel_rfl
                · show _ = _; kernel_rfl
                conv => lhs; whnf
                obtain ⟨y25, h_y25, h⟩ := callK_inv h
                rw [cl_eq hcl (L_laws_heldPairSS y24.2 1 h_y25)]
                rotate_left
                · show _ = _; kernel_rfl
                · show _ = _; kernel_rfl
                conv => lhs; whnf
                cases hb26 : (decide (y25 < 0))
                · replace h := ifF h (decF hb26); conv => lhs; whnf
                  cases hb27 : (y25 != y24.1)
                  · replace h := ifF h ((fun h => not_not_intro (bneF h)) hb27); conv => lhs; whnf
                    obtain ⟨y28, h_y28, h⟩ := callK_inv h
                    rw [cl_eq hcl (L_laws_toPairS a_0 h_y28)]
                    rotate_left
                    · show _ = _; kernel_rfl
                    · show _ = _; kernel_rfl
                    conv => lhs; whnf
                    obtain ⟨y29, h_y29, h⟩ := callK_inv h
                    rw [cl_eq hcl (L_laws_toRecordSS a_1 h_y29)]
                    rotate_left
                    · show _ = _; kernel_rfl
                    · show _ = _; kernel_rfl
                    conv => lhs; whnf
                    obtain ⟨y30, h_y30, h⟩ := callK_inv h
                    rw [cl_eq hcl (L_impl_StatesAfter y28 y29 h_y30)]
                    rotate_left
                    · show _ = _; kernel_rfl
                    · show _ = _; kernel_rfl
                    conv => lhs; whnf
                    conv => lhs; whnf
                    try (rw [litF_nst (f := (rL rPair)) (g := rPair) (p := fun x => x) (fun _ => rfl) (fun _ => rfl) (fun _ => rfl)]; conv => lhs; whnf)
                    obtain ⟨y31, h_y31, h⟩ := callK_inv h
                    rw [cl_eq hcl (L_laws_eqPairSS y30 y7 h_y31)]
                    rotate_left
                    · show _ = _; kernel_rfl
                    · show _ = _; kernel_rfl
                    conv => lhs; whnf
                    cases hb32 : y31
                    · replace h := ifF h (booF hb32); conv => lhs; whnf
                      obtain rfl := Option.some.inj h; show _ = _; kernel_rfl

                    · replace h := ifT h hb32; conv => lhs; whnf
                      obtain ⟨y33, h_y33, h⟩ := callK_inv h
                      rw [cl_eq hcl (L_laws_heldPairSS y24.2 1 h_y33)]
                      rotate_left
                      · show _ = _; kernel_rfl
                      · show _ = _; kernel_rfl
                      conv => lhs; whnf
                      cases hb34 : (decide (y33 < 0))
                      · replace h := ifF h (decF hb34); conv => lhs; whnf
                        cases hb35 : (y33 != y24.1)
                        · replace h := ifF h ((fun h => not_not_intro (bneF h)) hb35); conv => lhs; whnf
                          obtain rfl := Option.some.inj h; show _ = _; kernel_rfl

                        · replace h := ifT h (bneT hb35); conv => lhs; whnf
                          obtain rfl := Option.some.inj h; show _ = _; kernel_rfl

                      · replace h := ifT h (decT hb34); conv => lhs; whnf
                        obtain rfl := Option.some.inj h; show _ = _; kernel_rfl

                  · replace h := ifT h (bneT hb27); conv => lhs; whnf
                    obtain rfl := Option.some.inj h; show _ = _; kernel_rfl

                · replace h := ifT h (decT hb26); conv => lhs; whnf
                  obtain rfl := Option.some.inj h; show _ = _; kernel_rfl

            · replace h := ifT h (decT hb21); conv => lhs; whnf
              try (rw [hb21]; conv => lhs; whnf)
              try (rw [hb21]; conv => lhs; whnf)
              try (rw [hb21]; conv => lhs; whnf)
              try (rw [hb21]; conv => lhs; whnf)
              obtain rfl := Option.some.inj h; show _ = _; kernel_rfl

    · replace h := ifT h (decT hb4); conv => lhs; whnf
      obtain rfl := Option.some.inj h; show _ = _; kernel_rfl

  · replace h := ifT h (decT hb2); conv => lhs; whnf
    obtain rfl := Option.some.inj h; show _ = _; kernel_rfl

/-- slices.DeleteFunc, as it is printed for a condition f; z is the element that fills the end. -/
noncomputable def delF {α : Type} (z : α) (f : α → Option Bool) (a_0 : List α) : Option (List α) :=
  callK (grd (a_0.length < 4611686018427387904) <| forK a_0 (fun (i6 : Nat) x8 (_ : Unit) (nx7 : Unit → Option _) => callK (f x8) fun y9 => if y9 = true then some (i6 : Int) else nx7 ()) () (fun (_ : Unit) => some (-1))) fun y1 =>
  if y1 = (-1) then
    some a_0
  else
    iterK (fun ((v3, v4, v5) : (Int × Int × (List α))) (nx6 : (Int × Int × (List α)) → Option _) =>
      if v4 < (v5.length : Int) then
        getK v5 v4 fun x8 =>
        callK (f x8) fun y9 =>
        if y9 = true then
          nx6 (v3, (IntKind.i64.wrap (v4 + 1)), v5)
        else
          getK v5 v3 fun x11 =>
          nx6 ((IntKind.i64.wrap (v3 + 1)), (IntKind.i64.wrap (v4 + 1)), (v5.set (Int.toNat v3) x8))
      else
        grd (0 ≤ v3 ∧ v3 < (v5.length : Int)) <|
        grd (0 ≤ v3 ∧ v3 ≤ ((v5.take (Int.toNat v3) ++ List.replicate (v5.length - (Int.toNat v3)) z).length : Int)) <|
        some ((v5.take (Int.toNat v3) ++ List.replicate (v5.length - (Int.toNat v3)) z).take (Int.toNat v3))) NN (y1, (IntKind.i64.wrap (y1 + 1)), a_0)
theorem forGo_congr {α σ R : Type} {f g : Nat → α → σ → (σ → Option R) → Option R} {k : σ → Option R} : ∀ (l : List α) (i : Nat) (s : σ), (∀ x ∈ l, ∀ i s nx, f i x s nx = g i x s nx) → forGo f k i l s = forGo g k i l s
  | [], i, s, h => rfl
  | x :: l, i, s, h => by
    rw [forGo_cons, forGo_cons, h x (by simp), show forGo f k (i + 1) l = forGo g k (i + 1) l from funext fun s => forGo_congr l (i + 1) s fun y hy => h y (by simp [hy])]
theorem idx_mem {α : Type} {f : α → Option Bool} {p : α → Bool} (l : List α) (hp : ∀ x ∈ l, f x = some (p x)) :
    forK l (fun (i : Nat) x (s : Unit) nx => callK (f x) fun y => if y = true then some (i : Int) else nx s) () (fun _ => some (-1)) = some (idxP p l) := by
  refine Eq.trans ?_ (forK_idx (f := fun x => some (p x)) (p := p) (fun x => rfl) l)
  exact forGo_congr l 0 () fun x hx i s nx => by rw [hp x hx]
/-- What is left: those for which the condition is false. -/
theorem delF_ok {α : Type} (z : α) {f : α → Option Bool} {p : α → Bool} (l : List α) (hl : l.length ≤ 100000000) (hp : ∀ x ∈ l, f x = some (p x)) : delF z f l = some (l.filter fun x => !p x) := by
  unfold delF
  rw [grd_pos (by omega), idx_mem l hp, callK_some]
  unfold idxP
  cases hi : l.findIdx? p with
  | none =>
    rw [List.findIdx?_eq_none_iff] at hi
    rw [if_pos rfl]
    congr 1
    refine (List.filter_eq_self.mpr fun x hx => ?_).symm
    simp [hi x hx]
  | some j =>
    obtain ⟨hj, h1, h2⟩ := List.findIdx?_eq_some_iff_getElem.mp hi
    dsimp only
    rw [if_neg (by omega), wrap_sm _ (by omega) (by omega)]
    have hfj : (l.take (j + 1)).filter (fun x => !p x) = l.take j := by
      rw [List.take_succ_eq_append_getElem hj, List.filter_append]
      have a : (l.take j).filter (fun x => !p x) = l.take j := List.filter_eq_self.mpr fun x hx => by
        obtain ⟨i, hi1, rfl⟩ := List.mem_take_iff_getElem.mp hx
        have := h2 i (by omega)
        simpa using this
      rw [a]; simp [h1]
    refine iterK_rule (fun d (s : Int × Int × List α) => ∃ w r : Nat, s.1 = w ∧ s.2.1 = r ∧ w < r ∧ r ≤ l.length ∧ d = l.length - r ∧ s.2.2.length = l.length ∧ s.2.2.take w = (l.take r).filter (fun x => !p x) ∧ s.2.2.drop r = l.drop r) ?_ (l.length - (j + 1)) _ (by unfold NN; omega)
      ⟨j, j + 1, rfl, by dsimp only; omega, by omega, by omega, rfl, rfl, hfj.symm, rfl⟩
    rintro d ⟨v3, v4, v5⟩ ⟨w, r, e1, e2, e3, e4, e5, e6, e7, e8⟩ nx hnx
    dsimp only at e1 e2 e6 e7 e8 hnx ⊢
    subst e1 e2
    have hfl : ((l.take r).filter (fun x => !p x)).length = w := by
      rw [← e7, List.length_take]; omega
    by_cases hr : r < l.length
    · have hx : v5[r]'(by omega) = l[r] := by
        have a := congrArg (fun t => t[0]?) e8
        simp [hr, e6] at a
        exact a
      rw [if_pos (by omega), getK_lt (by omega), hx, hp _ (List.getElem_mem hr), callK_some]
      have hs : (l.take (r + 1)).filter (fun x => !p x) = (l.take r).filter (fun x => !p x) ++ (if p l[r] = true then [] else [l[r]]) := by
        rw [List.take_succ_eq_append_getElem hr, List.filter_append]
        congr 1
        cases hq : p l[r] <;> simp [hq]
      have hd : ∀ u : List α, u.length = l.length → u.drop r = l.drop r → u.drop (r + 1) = l.drop (r + 1) := fun u _ h => by
        have := congrArg (List.drop 1) h
        simpa [List.drop_drop] using this
      by_cases hq : p l[r] = true
      · rw [if_pos hq, wrap_sm _ (by omega) (by omega)]
        exact hnx _ _ (by omega) ⟨w, r + 1, rfl, by dsimp only; omega, by omega, by omega, rfl, e6, by dsimp only; rw [hs, if_pos hq, List.append_nil, e7], hd _ e6 e8⟩
      · rw [if_neg hq, getK_lt (by omega), wrap_sm _ (by omega) (by omega), wrap_sm _ (by omega) (by omega), Int.toNat_natCast]
        refine hnx (l.length - (r + 1)) _ (by omega) ⟨w + 1, r + 1, by dsimp only; omega, by dsimp only; omega, by omega, by omega, rfl, by simpa using e6, ?_, ?_⟩
        · dsimp only
          rw [hs, if_neg hq, ← e7, List.take_succ_eq_append_getElem (by simp; omega), List.take_set_of_le (by omega)]
          simp
        · dsimp only
          rw [List.drop_set_of_lt (by omega)]
          exact hd _ e6 e8
    · have hrl : r = l.length := by omega
      subst hrl
      rw [if_neg (by omega), grd_pos (by omega), grd_pos (by simp; omega), Int.toNat_natCast, List.take_append_of_le_length (by simp; omega), List.take_take, Nat.min_self, e7, List.take_length]

/-! ### Strings in order -/
theorem bl_irr : ∀ x : List UInt8, Op.bytesLess x x = false
  | [] => rfl
  | a :: x => by simp [Op.bytesLess, bl_irr x, UInt8.lt_irrefl]
theorem bl_tr : ∀ {x y z : List UInt8}, Op.bytesLess x y = true → Op.bytesLess y z = true → Op.bytesLess x z = true
  | _, [], _, h, _ => by
    rename_i x _
    cases x <;> simp [Op.bytesLess] at h
  | _, b :: y, [], _, h => by simp [Op.bytesLess] at h
  | [], b :: y, c :: z, _, _ => rfl
  | a :: x, b :: y, c :: z, h1, h2 => by
    simp only [Op.bytesLess, Bool.or_eq_true, Bool.and_eq_true, decide_eq_true_eq, beq_iff_eq] at h1 h2 ⊢
    rcases h1 with h1 | ⟨rfl, h1⟩
    · rcases h2 with h2 | ⟨rfl, h2⟩
      · exact .inl (UInt8.lt_trans h1 h2)
      · exact .inl h1
    · rcases h2 with h2 | ⟨rfl, h2⟩
      · exact .inl h2
      · exact .inr ⟨rfl, bl_tr h1 h2⟩
theorem bl_tri : ∀ {x y : List UInt8}, Op.bytesLess x y = false → Op.bytesLess y x = false → x = y
  | [], [], _, _ => rfl
  | [], _ :: _, h, _ => by simp [Op.bytesLess] at h
  | _ :: _, [], _, h => by simp [Op.bytesLess] at h
  | a :: x, b :: y, h1, h2 => by
    simp only [Op.bytesLess, Bool.or_eq_false_iff, decide_eq_false_iff_not, Bool.and_eq_false_iff, beq_eq_false_iff_ne, ne_eq] at h1 h2
    have he : a = b := by
      rcases UInt8.lt_or_eq_of_le (UInt8.not_lt.mp h2.1) with h | h
      · exact absurd h h1.1
      · exact h
    subst he
    rcases h1.2 with h | h
    · exact absurd rfl h
    · rcases h2.2 with h' | h'
      · exact absurd rfl h'
      · rw [bl_tri h h']
def kl (a b : ByteArray) : Prop := Op.bytesLess a.toList b.toList = true
theorem kl_irr (a : ByteArray) : ¬ kl a a := by unfold kl; rw [bl_irr]; simp
theorem kl_tr (a b c : ByteArray) (h1 : kl a b) (h2 : kl b c) : kl a c := bl_tr h1 h2
theorem kl_tri (a b : ByteArray) (h1 : ¬ kl a b) (h2 : ¬ kl b a) : a = b := by
  unfold kl at h1 h2
  have := bl_tri (by simpa using h1) (by simpa using h2)
  rw [toList_data, toList_data] at this
  exact bytes_ext this
theorem kl_b (a b : ByteArray) : (Op.bytesLess a.toList b.toList = true) = kl a b := rfl
theorem kl_as {a b : ByteArray} (h : kl a b) : ¬ kl b a := fun h2 => kl_irr _ (kl_tr _ _ _ h h2)
theorem kl_ne {a b : ByteArray} (h : kl a b) : a ≠ b := fun e => kl_irr a (by rw [← e] at h; exact h)
theorem kl_empty (a : ByteArray) : ¬ kl a ⟨#[]⟩ := by
  unfold kl
  rw [show (⟨#[]⟩ : ByteArray).toList = [] from by rw [toList_data]]
  cases a.toList <;> simp [Op.bytesLess]
theorem kl_pos {a : ByteArray} (h : a ≠ ⟨#[]⟩) : kl ⟨#[]⟩ a := Classical.byContradiction fun hn => h (kl_tri _ _ (kl_empty a) hn)
/-! ### Orders one behind the other -/
def Lx {α κ : Type} (f : α → κ) (r : κ → κ → Prop) (S : α → α → Prop) (a b : α) : Prop := r (f a) (f b) ∨ (f a = f b ∧ S a b)
theorem Lx.tr {α κ : Type} {f : α → κ} {r : κ → κ → Prop} {S : α → α → Prop} (hr : ∀ x y z, r x y → r y z → r x z) (hS : ∀ a b c, S a b → S b c → S a c) (a b c : α) (h1 : Lx f r S a b) (h2 : Lx f r S b c) : Lx f r S a c := by
  rcases h1 with h1 | ⟨e1, h1⟩ <;> rcases h2 with h2 | ⟨e2, h2⟩
  · exact .inl (hr _ _ _ h1 h2)
  · exact .inl (e2 ▸ h1)
  · exact .inl (e1 ▸ h2)
  · exact .inr ⟨e1.trans e2, hS _ _ _ h1 h2⟩
theorem Lx.irr {α κ : Type} {f : α → κ} {r : κ → κ → Prop} {S : α → α → Prop} (hr : ∀ x, ¬ r x x) (hS : ∀ a, ¬ S a a) (a : α) : ¬ Lx f r S a a := by
  rintro (h | ⟨_, h⟩)
  · exact hr _ h
  · exact hS _ h
theorem Lx.tri {α κ : Type} {f : α → κ} {r : κ → κ → Prop} {S : α → α → Prop} (hr : ∀ x y, ¬ r x y → ¬ r y x → x = y) {a b : α} (h1 : ¬ Lx f r S a b) (h2 : ¬ Lx f r S b a) : f a = f b ∧ ¬ S a b ∧ ¬ S b a := by
  have e := hr (f a) (f b) (fun h => h1 (.inl h)) (fun h => h2 (.inl h))
  exact ⟨e, fun h => h1 (.inr ⟨e, h⟩), fun h => h2 (.inr ⟨e.symm, h⟩)⟩
/-- The internal order. -/
def RL : Record → Record → Prop := Lx (·.Key) kl (Lx (·.Seq) (· > ·) (Lx (·.Kind) (· < ·) (Lx (·.Value) kl fun a b => kl a.End b.End)))
theorem RL_tr (a b c : Record) : RL a b → RL b c → RL a c := by
  unfold RL
  refine Lx.tr kl_tr (Lx.tr (fun x y z h1 h2 => ?_) (Lx.tr (fun x y z h1 h2 => ?_) (Lx.tr kl_tr fun a b c h1 h2 => ?_))) a b c
  · exact Int.lt_trans h2 h1
  · exact Int.lt_trans h1 h2
  · exact kl_tr _ _ _ h1 h2
theorem RL_irr (a : Record) : ¬ RL a a := by
  unfold RL
  refine Lx.irr kl_irr (Lx.irr (fun x h => ?_) (Lx.irr (fun x h => ?_) (Lx.irr kl_irr fun a h => ?_))) a
  · exact Int.lt_irrefl _ h
  · exact Int.lt_irrefl _ h
  · exact kl_irr _ h
theorem RL_tri {a b : Record} (h1 : ¬ RL a b) (h2 : ¬ RL b a) : a = b := by
  obtain ⟨e1, h1, h2⟩ := Lx.tri kl_tri h1 h2
  obtain ⟨e2, h1, h2⟩ := Lx.tri (fun x y (h1 : ¬ x > y) (h2 : ¬ y > x) => by omega) h1 h2
  obtain ⟨e3, h1, h2⟩ := Lx.tri (fun x y (h1 : ¬ x < y) (h2 : ¬ y < x) => by omega) h1 h2
  obtain ⟨e4, h1, h2⟩ := Lx.tri kl_tri h1 h2
  have e5 := kl_tri _ _ h1 h2
  cases a; cases b
  simp_all
theorem RL_key {a b : Record} (h : RL a b) : kl a.Key b.Key ∨ a.Key = b.Key := h.imp id (·.1)
noncomputable def rl (a b : Record) : Bool := @decide (RL a b) (Classical.propDecidable _)
theorem rl_iff {a b : Record} : rl a b = true ↔ RL a b := by unfold rl; exact @decide_eq_true_iff _ (Classical.propDecidable _)
theorem rl_of {b : Bool} {x y : Record} (h : b = true ↔ RL x y) : b = rl x y := by rw [Bool.eq_iff_iff, h, rl_iff]
/-- Two rows in strict order with the same elements are one. -/
theorem sorted_ext {α : Type} {r : α → α → Prop} (tr : ∀ a b c, r a b → r b c → r a c) (irr : ∀ a, ¬ r a a) : ∀ {l m : List α}, l.Pairwise r → m.Pairwise r → (∀ x, x ∈ l ↔ x ∈ m) → l = m
  | [], [], _, _, _ => rfl
  | [], y :: m, _, _, h => by have := (h y).mpr (by simp); simp at this
  | x :: l, [], _, _, h => by have := (h x).mp (by simp); simp at this
  | x :: l, y :: m, h1, h2, h => by
    rw [List.pairwise_cons] at h1 h2
    have e : x = y := by
      rcases List.mem_cons.mp ((h x).mp (by simp)) with e | hx
      · exact e
      · rcases List.mem_cons.mp ((h y).mpr (by simp)) with e | hy
        · exact e.symm
        · exact absurd (tr _ _ _ (h1.1 y hy) (h2.1 x hx)) (irr x)
    subst e
    congr 1
    refine sorted_ext tr irr h1.2 h2.2 fun z => ?_
    constructor
    · intro hz
      rcases List.mem_cons.mp ((h z).mp (by simp [hz])) with e | h'
      · subst e; exact absurd (h1.1 z hz) (irr z)
      · exact h'
    · intro hz
      rcases List.mem_cons.mp ((h z).mpr (by simp [hz])) with e | h'
      · subst e; exact absurd (h2.1 z hz) (irr z)
      · exact h'
/-! ### A record put to its place -/
noncomputable def into : List Record → Record → List Record
  | [], r => [r]
  | x :: l, r => if rl x r = true then x :: into l r else @ite _ (x = r) (Classical.propDecidable _) (x :: l) (r :: x :: l)
theorem into_mem {x r : Record} : ∀ {l : List Record}, x ∈ into l r ↔ x ∈ l ∨ x = r
  | [] => by simp [into]
  | y :: l => by
    unfold into
    split
    · rw [List.mem_cons, into_mem (l := l), List.mem_cons, or_assoc]
    · split
      · rename_i e
        subst e
        simp
        intro h; subst h; exact .inl rfl
      · simp only [List.mem_cons]
        constructor
        · rintro (h | h | h)
          · exact .inr h
          · exact .inl (.inl h)
          · exact .inl (.inr h)
        · rintro ((h | h) | h)
          · exact .inr (.inl h)
          · exact .inr (.inr h)
          · exact .inl h
theorem into_sorted {r : Record} : ∀ {l : List Record}, l.Pairwise RL → (into l r).Pairwise RL
  | [], _ => by simp [into]
  | y :: l, h => by
    unfold into
    rw [List.pairwise_cons] at h
    split
    · rename_i c
      refine List.pairwise_cons.mpr ⟨fun x hx => ?_, into_sorted h.2⟩
      rcases into_mem.mp hx with hx | rfl
      · exact h.1 x hx
      · exact rl_iff.mp c
    · rename_i c
      split
      · exact List.pairwise_cons.mpr h
      · rename_i e
        have hry : RL r y := Classical.byContradiction fun hn => e (RL_tri (fun h => c (rl_iff.mpr h)) hn)
        refine List.pairwise_cons.mpr ⟨fun x hx => ?_, List.pairwise_cons.mpr h⟩
        rcases List.mem_cons.mp hx with rfl | hx
        · exact hry
        · exact RL_tr _ _ _ hry (h.1 x hx)
theorem into_len {r : Record} : ∀ {l : List Record}, r ∉ l → (into l r).length = l.length + 1
  | [], _ => rfl
  | y :: l, h => by
    unfold into
    split
    · simp only [List.length_cons, into_len (l := l) (r := r) (fun hm => h (List.mem_cons_of_mem _ hm))]
    · split
      · rename_i e; exact absurd (by simp [e]) h
      · rfl
theorem into_len_le (r : Record) : ∀ (l : List Record), (into l r).length ≤ l.length + 1
  | [] => by simp [into]
  | y :: l => by
    unfold into
    split
    · have := into_len_le r l; simp only [List.length_cons]; omega
    · split <;> simp
theorem into_at {r : Record} : ∀ {l : List Record} {i : Nat} (hi : i < l.length), (∀ j (hj : j < i), rl (l[j]'(by omega)) r = true) → rl l[i] r = false → into l r = @ite _ (l[i] = r) (Classical.propDecidable _) l (l.take i ++ r :: l.drop i)
  | x :: l, 0, hi, _, h => by
    unfold into
    simp only [List.getElem_cons_zero] at h ⊢
    rw [if_neg (by rw [h]; decide)]
    by_cases e : x = r
    · rw [if_pos e, if_pos e]
    · rw [if_neg e, if_neg e]; rfl
  | x :: l, i + 1, hi, h1, h => by
    have h0 := h1 0 (by omega)
    simp only [List.getElem_cons_zero] at h0
    unfold into
    rw [if_pos h0, into_at (l := l) (i := i) (by simpa using hi) (fun j hj => by have := h1 (j + 1) (by omega); simpa using this) (by simpa using h)]
    simp only [List.getElem_cons_succ]
    split <;> rfl
theorem into_end {r : Record} : ∀ {l : List Record}, (∀ x ∈ l, rl x r = true) → into l r = l ++ [r]
  | [], _ => rfl
  | x :: l, h => by
    unfold into
    rw [if_pos (h x (by simp)), into_end fun y hy => h y (by simp [hy])]; rfl
theorem fold_into : ∀ (l acc : List Record), acc.Pairwise RL → (∀ x ∈ acc, ∀ y ∈ l, x ≠ y) → l.Pairwise (· ≠ ·) → (l.foldl into acc).Pairwise RL ∧ (∀ x, x ∈ l.foldl into acc ↔ x ∈ acc ∨ x ∈ l) ∧ (l.foldl into acc).length = acc.length + l.length
  | [], acc, h, _, _ => ⟨h, by simp, by simp⟩
  | y :: l, acc, h, h1, h2 => by
    rw [List.pairwise_cons] at h2
    rw [List.foldl_cons]
    obtain ⟨g1, g2, g3⟩ := fold_into l (into acc y) (into_sorted h) (fun x hx z hz => by
      rcases into_mem.mp hx with hx | rfl
      · exact h1 x hx z (by simp [hz])
      · exact h2.1 z hz) h2.2
    refine ⟨g1, fun x => ?_, ?_⟩
    · rw [g2, into_mem, List.mem_cons, or_assoc]
    · rw [g3, into_len (fun hm => h1 y hm y (by simp) rfl), List.length_cons]; omega
theorem fold_into_mem : ∀ (l acc : List Record) (x : Record), x ∈ l.foldl into acc ↔ x ∈ acc ∨ x ∈ l
  | [], acc, x => by simp
  | y :: l, acc, x => by rw [List.foldl_cons, fold_into_mem, into_mem, List.mem_cons, or_assoc]
theorem fold_into_sorted : ∀ (l acc : List Record), acc.Pairwise RL → (l.foldl into acc).Pairwise RL
  | [], acc, h => h
  | y :: l, acc, h => by rw [List.foldl_cons]; exact fold_into_sorted l _ (into_sorted h)
/-! ### Valid records, runs -/
def okKey (k : ByteArray) : Bool := inR (k.size : Int) 1 8
def isE (s : ByteArray) : Bool := s.toList == (⟨#[]⟩ : ByteArray).toList
theorem isE_iff {s : ByteArray} : isE s = true ↔ s = ⟨#[]⟩ := by unfold isE; rw [str_eq]; exact decide_eq_true_iff
def okRec (r : Record) : Bool := okKey r.Key && (inR r.Seq 1 1000000 && (if r.Kind = 1 then decide ((r.Value.size : Int) ≤ 16) && isE r.End else if r.Kind = 2 then isE r.Value && isE r.End else if r.Kind = 3 then isE r.Value && (okKey r.End && Op.bytesLess r.Key.toList r.End.toList) else false))
theorem okKey_ne {k : ByteArray} (h : okKey k = true) : k ≠ ⟨#[]⟩ := by
  rintro rfl
  have := inR_iff.mp h
  simp [ByteArray.size] at this
theorem okRec_seq {r : Record} (h : okRec r = true) : 1 ≤ r.Seq ∧ r.Seq ≤ 1000000 := by
  unfold okRec at h
  simp only [Bool.and_eq_true] at h
  exact inR_iff.mp h.2.1
theorem okRec_key {r : Record} (h : okRec r = true) : okKey r.Key = true := by
  unfold okRec at h
  simp only [Bool.and_eq_true] at h
  exact h.1
structure Run (l : List Record) : Prop where
  ok : ∀ r ∈ l, okRec r = true
  srt : l.Pairwise RL
  inj : ∀ a ∈ l, ∀ b ∈ l, a.Seq = b.Seq → a = b
theorem Run.sub {l m : List Record} (h : Run l) (hs : m.Sublist l) : Run m := ⟨fun r hr => h.ok r (hs.subset hr), h.srt.sublist hs, fun a ha b hb => h.inj a (hs.subset ha) b (hs.subset hb)⟩
theorem Run.filter {l : List Record} (h : Run l) (p : Record → Bool) : Run (l.filter p) := h.sub List.filter_sublist
theorem Run.nil : Run [] := ⟨fun r hr => by simp at hr, .nil, fun a ha => by simp at ha⟩
theorem Run.ne {l : List Record} (h : Run l) : l.Pairwise (· ≠ ·) := h.srt.imp fun hr e => by subst e; exact RL_irr _ hr
theorem Run.into {l : List Record} (h : Run l) {r : Record} (hr : okRec r = true) (hn : ∀ x ∈ l, x.Seq ≠ r.Seq) : Run (into l r) := by
  refine ⟨fun x hx => ?_, into_sorted h.srt, fun a ha b hb e => ?_⟩
  · rcases into_mem.mp hx with hx | rfl
    · exact h.ok x hx
    · exact hr
  · rcases into_mem.mp ha with a1 | a1 <;> rcases into_mem.mp hb with b1 | b1
    · exact h.inj a a1 b b1 e
    · exact absurd (by rw [e, b1]) (hn a a1)
    · exact absurd (by rw [← e, a1]) (hn b b1)
    · rw [a1, b1]
/-! ### What a record does to a key -/
def aff (r : Record) (k : ByteArray) : Bool := if r.Kind = 3 then (Op.bytesLess r.Key.toList k.toList || r.Key.toList == k.toList) && Op.bytesLess k.toList r.End.toList else r.Key.toList == k.toList
theorem aff_key {r : Record} (h : r.Kind ≠ 3) {k : ByteArray} (ha : aff r k = true) : r.Key = k := by
  unfold aff at ha
  rw [if_neg h, str_eq] at ha
  exact of_decide_eq_true ha
def zR : Record := ⟨⟨#[]⟩, 0, 0, ⟨#[]⟩, ⟨#[]⟩⟩
/-- The newest record that affects a key, up to a sequence number. -/
structure New (l : List Record) (k : ByteArray) (s : Int) (n : Record) : Prop where
  has : n = zR ∨ (n ∈ l ∧ aff n k = true ∧ n.Seq ≤ s)
  top : ∀ x ∈ l, aff x k = true → x.Seq ≤ s → x.Seq ≤ n.Seq
theorem New.uniq {l : List Record} (h : Run l) {k : ByteArray} {s : Int} {n m : Record} (h1 : New l k s n) (h2 : New l k s m) : n = m := by
  rcases h1.has with e1 | ⟨a1, a2, a3⟩ <;> rcases h2.has with e2 | ⟨b1, b2, b3⟩
  · rw [e1, e2]
  · have := h1.top m b1 b2 b3
    have := okRec_seq (h.ok m b1)
    rw [e1] at *
    unfold zR at *
    dsimp only at *
    omega
  · have := h2.top n a1 a2 a3
    have := okRec_seq (h.ok n a1)
    rw [e2] at *
    unfold zR at *
    dsimp only at *
    omega
  · have h3 := h1.top m b1 b2 b3
    have h4 := h2.top n a1 a2 a3
    exact h.inj n a1 m b1 (by omega)
def getV (n : Record) : Option ByteArray := if n.Seq > 0 ∧ n.Kind = 1 then some n.Value else none
/-! ### The keys of a run -/
def keysG : ByteArray → List Record → List ByteArray
  | _, [] => []
  | last, x :: l => if (x.Key.toList == last.toList) = true then keysG last l else x.Key :: keysG x.Key l
theorem keysG_mem {k : ByteArray} : ∀ {l : List Record} {last : ByteArray}, k ∈ keysG last l → ∃ x ∈ l, x.Key = k
  | [], _, h => by simp [keysG] at h
  | x :: l, last, h => by
    unfold keysG at h
    split at h
    · obtain ⟨y, h1, h2⟩ := keysG_mem h
      exact ⟨y, by simp [h1], h2⟩
    · rcases List.mem_cons.mp h with rfl | h
      · exact ⟨x, by simp, rfl⟩
      · obtain ⟨y, h1, h2⟩ := keysG_mem h
        exact ⟨y, by simp [h1], h2⟩
theorem keysG_of {k : ByteArray} : ∀ {l : List Record} {last : ByteArray}, k ≠ last → (∃ x ∈ l, x.Key = k) → k ∈ keysG last l
  | [], _, _, ⟨x, h, _⟩ => by simp at h
  | y :: l, last, hne, ⟨x, hx, hk⟩ => by
    unfold keysG
    split
    · rename_i e
      rw [str_eq, decide_eq_true_eq] at e
      rcases List.mem_cons.mp hx with rfl | hx
      · exact absurd (hk.symm.trans e) hne
      · exact keysG_of hne ⟨x, hx, hk⟩
    · by_cases e : k = y.Key
      · rw [e]; simp
      · rcases List.mem_cons.mp hx with rfl | hx
        · exact absurd hk.symm e
        · exact List.mem_cons_of_mem _ (keysG_of e ⟨x, hx, hk⟩)
theorem keysG_sorted : ∀ {l : List Record} {last : ByteArray}, l.Pairwise RL → (∀ x ∈ l, kl last x.Key ∨ last = x.Key) → (last :: keysG last l).Pairwise kl
  | [], _, _, _ => by simp [keysG]
  | x :: l, last, h, hl => by
    rw [List.pairwise_cons] at h
    unfold keysG
    split
    · exact keysG_sorted h.2 fun y hy => hl y (by simp [hy])
    · rename_i e
      rw [str_eq, decide_eq_true_eq] at e
      have hx : kl last x.Key := (hl x (by simp)).resolve_right fun h => e h.symm
      have ih := keysG_sorted (l := l) (last := x.Key) h.2 fun y hy => RL_key (h.1 y hy)
      refine List.pairwise_cons.mpr ⟨fun k hk => ?_, ih⟩
      rcases List.mem_cons.mp hk with rfl | hk
      · exact hx
      · exact kl_tr _ _ _ hx ((List.pairwise_cons.mp ih).1 k hk)
def keysOf (l : List Record) : List ByteArray := keysG ⟨#[]⟩ l
theorem keysOf_sorted {l : List Record} (h : Run l) : (keysOf l).Pairwise kl := (List.pairwise_cons.mp (keysG_sorted h.srt fun x hx => .inl (kl_pos (okKey_ne (okRec_key (h.ok x hx)))))).2
theorem keysOf_mem {l : List Record} (h : Run l) {k : ByteArray} : k ∈ keysOf l ↔ ∃ x ∈ l, x.Key = k := ⟨keysG_mem, fun ⟨x, hx, hk⟩ => keysG_of (by rw [← hk]; exact okKey_ne (okRec_key (h.ok x hx))) ⟨x, hx, hk⟩⟩
/-- What is visible of a run: each key with its value. -/
def visOf (g : ByteArray → Option ByteArray) (ks : List ByteArray) : List Pair := ks.filterMap fun k => (g k).map fun v => ⟨k, v⟩
theorem vis_eq {A B : List Record} (hA : Run A) (hB : Run B) {g : ByteArray → Option ByteArray} (h : ∀ k, g k ≠ none → (∃ x ∈ A, x.Key = k) ∧ ∃ x ∈ B, x.Key = k) : visOf g (keysOf A) = visOf g (keysOf B) := by
  have e : ∀ ks : List ByteArray, visOf g ks = visOf g (ks.filter fun k => (g k).isSome) := by
    intro ks
    unfold visOf
    induction ks with
    | nil => rfl
    | cons k ks ih =>
      rw [List.filterMap_cons, List.filter_cons]
      cases hg : g k with
      | none => simp only [Option.map_none, Option.isSome_none, Bool.false_eq_true, if_false]; exact ih
      | some v => simp only [Option.map_some, Option.isSome_some, if_true, List.filterMap_cons, hg]; rw [ih]
  rw [e, e (keysOf B)]
  congr 1
  refine sorted_ext kl_tr kl_irr ((keysOf_sorted hA).filter _) ((keysOf_sorted hB).filter _) fun k => ?_
  simp only [List.mem_filter, keysOf_mem hA, keysOf_mem hB, Option.isSome_iff_ne_none]
  exact ⟨fun ⟨_, h2⟩ => ⟨(h k h2).2, h2⟩, fun ⟨_, h2⟩ => ⟨(h k h2).1, h2⟩⟩

theorem less_cmp : ∀ (x y : List UInt8), Op.bytesLess x y = decide (Lib.compareBytes x y < 0)
  | _, [] => by
    rename_i x
    cases x <;> rfl
  | [], _ :: _ => rfl
  | a :: x, b :: y => by
    rw [Op.bytesLess, Lib.compareBytes, less_cmp x y]
    by_cases h1 : a < b
    · simp [h1]
    · by_cases h2 : b < a
      · have hne : a ≠ b := fun e => by subst e; exact h1 h2
        simp [h1, h2, hne]
      · have he : a = b := by
          have e1 : ¬ a.toNat < b.toNat := fun h => h1 (by rwa [UInt8.lt_iff_toNat_lt])
          have e2 : ¬ b.toNat < a.toNat := fun h => h2 (by rwa [UInt8.lt_iff_toNat_lt])
          exact UInt8.toNat_inj.mp (by omega)
        simp [h1, h2, he]
theorem cmp_zero : ∀ (x y : List UInt8), Lib.compareBytes x y = 0 ↔ x = y
  | [], [] => by simp [Lib.compareBytes]
  | [], _ :: _ => by simp [Lib.compareBytes]
  | _ :: _, [] => by simp [Lib.compareBytes]
  | a :: x, b :: y => by
    rw [Lib.compareBytes]
    by_cases h1 : a < b
    · have hne : a ≠ b := fun e => by subst e; rw [UInt8.lt_iff_toNat_lt] at h1; omega
      simp [h1, hne]
    · by_cases h2 : b < a
      · have hne : a ≠ b := fun e => by subst e; exact h1 h2
        simp [h1, h2, hne]
      · have he : a = b := by
          have e1 : ¬ a.toNat < b.toNat := fun h => h1 (by rwa [UInt8.lt_iff_toNat_lt])
          have e2 : ¬ b.toNat < a.toNat := fun h => h2 (by rwa [UInt8.lt_iff_toNat_lt])
          exact UInt8.toNat_inj.mp (by omega)
        simp [h1, h2, he, cmp_zero x y]
theorem cmpB_lt {a b : ByteArray} : cmpB a b < 0 ↔ kl a b := by
  unfold cmpB kl
  rw [toList_data, toList_data, less_cmp, decide_eq_true_iff]
theorem cmpB_eq {a b : ByteArray} : cmpB a b = 0 ↔ a = b := by
  unfold cmpB
  rw [cmp_zero]
  exact ⟨bytes_ext, fun h => by rw [h]⟩

/-! ### What the functions on records come to -/
theorem ifs_pos {R : Type} {a b : ByteArray} (h : a = b) (x y : Option R) : (if (a.toList == b.toList) = true then x else y) = x := by rw [if_pos]; rw [str_eq]; exact decide_eq_true h
theorem ifs_neg {R : Type} {a b : ByteArray} (h : a ≠ b) (x y : Option R) : (if (a.toList == b.toList) = true then x else y) = y := by rw [if_neg]; rw [str_eq]; simpa using h
theorem pl_iKey (k : ByteArray) : p_impl_ValidKey k = some (okKey k) := rfl
theorem pl_sKey (k : ByteArray) : p_spec_l17Key k = some (okKey k) := by
  unfold p_spec_l17Key okKey
  split
  · rename_i h
    congr 1
    rw [Bool.eq_iff_iff, decide_eq_true_iff, inR_iff]
    omega
  · rename_i h
    rw [inR_not.mpr (by omega)]
theorem pl_sRec (r : Record) : p_spec_l17Valid r = some (okRec r) := by
  unfold p_spec_l17Valid okRec
  rw [pl_sKey, callK_some]
  cases okKey r.Key
  · rfl
  cases inR r.Seq 1 1000000
  · rfl
  simp only [if_true, Bool.true_and]
  by_cases k1 : r.Kind = 1
  · rw [if_pos k1, if_pos k1]
    by_cases hv : (r.Value.size : Int) ≤ 16
    · rw [if_pos hv]; simp [hv, isE]
    · rw [if_neg hv]; simp [hv]
  · rw [if_neg k1, if_neg k1]
    by_cases k2 : r.Kind = 2
    · rw [if_pos k2, if_pos k2]
      unfold isE
      cases r.Value.toList == (⟨#[]⟩ : ByteArray).toList <;> rfl
    · rw [if_neg k2, if_neg k2]
      by_cases k3 : r.Kind = 3
      · rw [if_pos k3, if_pos k3, pl_sKey, callK_some]
        unfold isE
        cases r.Value.toList == (⟨#[]⟩ : ByteArray).toList <;> cases okKey r.End <;> rfl
      · rw [if_neg k3, if_neg k3]
theorem less_not (a b : ByteArray) : (!(Op.bytesLess a.toList b.toList || a.toList == b.toList)) = Op.bytesLess b.toList a.toList := by
  rw [str_eq, Bool.eq_iff_iff]
  simp only [Bool.not_eq_true', Bool.or_eq_false_iff, decide_eq_false_iff_not]
  constructor
  · rintro ⟨h1, h2⟩
    exact Classical.byContradiction fun h => h2 (kl_tri a b (by unfold kl; rw [h1]; simp) h)
  · intro h
    have h : kl b a := h
    refine ⟨?_, (kl_ne h).symm⟩
    have := kl_as h
    unfold kl at this
    simpa using this
theorem pl_iRec (r : Record) : p_impl_ValidRecord r = some (okRec r) := by
  rw [← pl_sRec]
  unfold p_impl_ValidRecord p_spec_l17Valid
  simp only [pl_iKey, pl_sKey, callK_some, less_not]
theorem pl_iAff (r : Record) (k : ByteArray) : p_impl_Record_affects r k = some (aff r k) := by
  unfold p_impl_Record_affects aff
  split
  · cases (Op.bytesLess r.Key.toList k.toList || r.Key.toList == k.toList) <;> rfl
  · rfl
theorem pl_sAff (r : Record) (k : ByteArray) : p_spec_l17Affects r k = some (aff r k) := by
  unfold p_spec_l17Affects aff
  split
  · cases (Op.bytesLess r.Key.toList k.toList || r.Key.toList == k.toList) <;> rfl
  · rfl

/-! ### A state and its updates -/
def pl2 (a b : Pair) : Prop := kl a.Key b.Key
structure State (s : List Pair) : Prop where
  ok : ∀ p ∈ s, okKey p.Key = true ∧ p.Value.size ≤ 16
  srt : s.Pairwise pl2
theorem pl_pairs {s : List Pair} (h : State s) (hl : s.length ≤ 100000000) : p_impl_pairsOk s = some true := by
  unfold p_impl_pairsOk
  rw [grd_pos (by omega)]
  refine forK_rule (fun _ _ => True) (fun i hi _ _ nx hnx => ?_) (fun s _ => rfl) () trivial
  obtain ⟨h1, h2⟩ := h.ok _ (List.getElem_mem hi)
  rw [pl_iKey, callK_some, if_pos h1, if_neg (by omega)]
  by_cases h0 : (i : Int) > 0
  · rw [if_pos h0, wrap_sm _ (by omega) (by omega), show (i : Int) - 1 = ((i - 1 : Nat) : Int) by omega, getK_lt (by omega)]
    have hlt : kl (s[i - 1]'(by omega)).Key s[i].Key := List.pairwise_iff_getElem.mp h.srt (i - 1) i (by omega) hi (by omega)
    rw [if_neg (fun hc => by
      rw [Bool.or_eq_true] at hc
      rcases hc with hc | hc
      · exact kl_as hlt hc
      · rw [str_eq, decide_eq_true_eq] at hc
        exact kl_ne hlt hc.symm)]
    exact hnx () trivial
  · rw [if_neg h0]; exact hnx () trivial
theorem u64_st (n : Int) (h1 : 0 ≤ n) (h2 : n ≤ 9223372036854775807) : IntKind.u64.wrap n = n := by
  have : IntKind.u64.wrap n = n % 18446744073709551616 := rfl
  omega
theorem half2 (n : Int) (h : 0 ≤ n ∧ n ≤ 1000000000) : IntKind.i64.wrap (Int.fdiv (IntKind.u64.wrap (IntKind.i64.wrap n)) (2 ^ (min (Int.toNat 1) IntKind.u64.bits))) = n / 2 := by
  have e : (2 : Int) ^ (min (Int.toNat 1) IntKind.u64.bits) = 2 := by decide +kernel
  rw [wrap_sm n (by omega) (by omega), u64_st n (by omega) (by omega), e, Int.fdiv_eq_ediv_of_nonneg n (by omega), wrap_sm _ (by omega) (by omega)]
theorem pl_find {s : List Pair} (hs : s.Pairwise pl2) (hl : s.length ≤ 100000000) (k : ByteArray) : ∃ (i : Nat) (b : Bool), p_slices_BinarySearchFunc_impl_applied_c2 k s = some ((i : Int), b) ∧ i ≤ s.length ∧ (∀ j (hj : j < s.length), j < i → kl s[j].Key k) ∧ (∀ j (hj : j < s.length), i ≤ j → ¬ kl s[j].Key k) := by
  unfold p_slices_BinarySearchFunc_impl_applied_c2
  obtain ⟨y, e, i, b, rfl, h1, h2, h3⟩ := iterK_ex (Q := fun (y : Int × Bool) => ∃ (i : Nat) (b : Bool), y = ((i : Int), b) ∧ i ≤ s.length ∧ (∀ j (hj : j < s.length), j < i → kl s[j].Key k) ∧ (∀ j (hj : j < s.length), i ≤ j → ¬ kl s[j].Key k))
    (f := fun ((v1, v2) : (Int × Int)) (nx3 : (Int × Int) → Option (Int × Bool)) =>
    if v1 < v2 then
      getK s (IntKind.i64.wrap (Int.fdiv (IntKind.u64.wrap (IntKind.i64.wrap (v1 + v2))) (2 ^ (min (Int.toNat 1) IntKind.u64.bits)))) fun x5 =>
      callK (p_impl_applied_c2 x5 k) fun y6 =>
      if y6 < 0 then
        nx3 ((IntKind.i64.wrap ((IntKind.i64.wrap (Int.fdiv (IntKind.u64.wrap (IntKind.i64.wrap (v1 + v2))) (2 ^ (min (Int.toNat 1) IntKind.u64.bits)))) + 1)), v2)
      else
        nx3 (v1, (IntKind.i64.wrap (Int.fdiv (IntKind.u64.wrap (IntKind.i64.wrap (v1 + v2))) (2 ^ (min (Int.toNat 1) IntKind.u64.bits)))))
    else
      if v1 < (s.length : Int) then
        getK s v1 fun x9 =>
        callK (p_impl_applied_c2 x9 k) fun y10 =>
        some (v1, (y10 == 0))
      else
        some (v1, false))
    (fun d t => ∃ a b : Nat, t = ((a : Int), (b : Int)) ∧ a ≤ b ∧ b ≤ s.length ∧ d = b - a ∧ (∀ j (hj : j < s.length), j < a → kl s[j].Key k) ∧ (∀ j (hj : j < s.length), b ≤ j → ¬ kl s[j].Key k)) (fun d t ht nx hnx => by
      obtain ⟨a, b, rfl, g1, g2, rfl, g3, g4⟩ := ht
      dsimp only
      by_cases hd : (a : Int) < (b : Int)
      · rw [if_pos hd]
        have hw := half2 ((a : Int) + (b : Int)) (by omega)
        have hm : ((a : Int) + (b : Int)) / 2 = (((a + b) / 2 : Nat) : Int) := by omega
        rw [hw, hm, getK_lt (by omega)]
        have hc : p_impl_applied_c2 (s[(a + b) / 2]'(by omega)) k = some (cmpB (s[(a + b) / 2]'(by omega)).Key k) := rfl
        rw [hc, callK_some]
        have hmono : ∀ i j (hi : i < s.length) (hj : j < s.length), i < j → kl s[i].Key s[j].Key := fun i j hi hj hij => List.pairwise_iff_getElem.mp hs i j hi hj hij
        by_cases hlt : cmpB (s[(a + b) / 2]'(by omega)).Key k < 0
        · rw [if_pos hlt, wrap_sm _ (by omega) (by omega)]
          rw [cmpB_lt] at hlt
          refine hnx (b - ((a + b) / 2 + 1)) _ (by omega) ⟨(a + b) / 2 + 1, b, by simp, by omega, g2, rfl, fun j hj hja => ?_, g4⟩
          by_cases hjm : j = (a + b) / 2
          · subst hjm; exact hlt
          · exact kl_tr _ _ _ (hmono j ((a + b) / 2) hj (by omega) (by omega)) hlt
        · rw [if_neg hlt]
          rw [cmpB_lt] at hlt
          refine hnx ((a + b) / 2 - a) _ (by omega) ⟨a, (a + b) / 2, rfl, by omega, by omega, rfl, g3, fun j hj hja hk => ?_⟩
          by_cases hjm : j = (a + b) / 2
          · subst hjm; exact hlt hk
          · exact hlt (kl_tr _ _ _ (hmono ((a + b) / 2) j (by omega) hj (by omega)) hk)
      · have : a = b := by omega
        subst this
        rw [if_neg hd]
        by_cases hz : (a : Int) < (s.length : Int)
        · rw [if_pos hz, getK_lt (by omega)]
          have hc : p_impl_applied_c2 (s[a]'(by omega)) k = some (cmpB (s[a]'(by omega)).Key k) := rfl
          rw [hc, callK_some]
          exact ⟨_, rfl, a, _, rfl, g2, g3, g4⟩
        · rw [if_neg hz]
          exact ⟨_, rfl, a, _, rfl, g2, g3, g4⟩)
    s.length (0, (s.length : Int)) (by unfold NN; omega) ⟨0, s.length, rfl, by omega, Nat.le_refl _, by omega, fun j hj h => by omega, fun j hj h => by omega⟩
  exact ⟨i, b, e, h1, h2, h3⟩
/-- A state after an update. -/
noncomputable def upd (s : List Pair) (r : Record) : List Pair :=
  let t := s.filter fun p => !aff r p.Key
  if r.Kind = 1 then (t.filter fun p => @decide (kl p.Key r.Key) (Classical.propDecidable _)) ++ ⟨r.Key, r.Value⟩ :: (t.filter fun p => !@decide (kl p.Key r.Key) (Classical.propDecidable _)) else t
theorem filter_cut {α : Type} (p : α → Bool) : ∀ {l : List α} {i : Nat}, i ≤ l.length → (∀ j (hj : j < l.length), j < i → p l[j] = true) → (∀ j (hj : j < l.length), i ≤ j → p l[j] = false) → l.filter p = l.take i ∧ l.filter (fun x => !p x) = l.drop i := by
  intro l i hi h1 h2
  have a : (l.take i).filter p = l.take i := List.filter_eq_self.mpr fun x hx => by
    obtain ⟨j, hj, rfl⟩ := List.mem_take_iff_getElem.mp hx
    exact h1 j (by omega) (by omega)
  have b : (l.drop i).filter p = [] := List.filter_eq_nil_iff.mpr fun x hx => by
    obtain ⟨j, hj, rfl⟩ := List.mem_drop_iff_getElem.mp hx
    have := h2 (i + j) (by omega) (by omega)
    simp [this]
  have c : (l.take i).filter (fun x => !p x) = [] := List.filter_eq_nil_iff.mpr fun x hx => by
    obtain ⟨j, hj, rfl⟩ := List.mem_take_iff_getElem.mp hx
    have := h1 j (by omega) (by omega)
    simp [this]
  have d : (l.drop i).filter (fun x => !p x) = l.drop i := List.filter_eq_self.mpr fun x hx => by
    obtain ⟨j, hj, rfl⟩ := List.mem_drop_iff_getElem.mp hx
    have := h2 (i + j) (by omega) (by omega)
    simp [this]
  constructor
  · conv => lhs; rw [← List.take_append_drop i l]
    rw [List.filter_append, a, b, List.append_nil]
  · conv => lhs; rw [← List.take_append_drop i l]
    rw [List.filter_append, c, d, List.nil_append]
theorem pl_applied {s : List Pair} (h : State s) (hl : s.length ≤ 10000000) (r : Record) : p_impl_applied s r = some (upd s r) := by
  have hd : p_slices_DeleteFunc_impl_applied_c1 s r = some (s.filter fun x => !aff r x.Key) := delF_ok _ s (by omega) (f := fun x => p_impl_applied_c1 x r) (p := fun x => aff r x.Key) fun x _ => by
    show p_impl_applied_c1 x r = _
    unfold p_impl_applied_c1
    rw [pl_iAff, callK_some]
  unfold p_impl_applied upd
  rw [grd_pos (appOk_of _ _ (by omega)), hd, callK_some]
  by_cases hk : r.Kind = 1
  · rw [if_neg (fun h => h hk), if_pos hk]
    have hlf := List.length_filter_le (fun x : Pair => !aff r x.Key) s
    obtain ⟨i, b, e, h1, h2, h3⟩ := pl_find (h.srt.filter fun x => !aff r x.Key) (by omega) r.Key
    obtain ⟨c1, c2⟩ := filter_cut (fun p : Pair => @decide (kl p.Key r.Key) (Classical.propDecidable _)) h1 (fun j hj hji => by simpa using h2 j hj hji) (fun j hj hji => by simpa using h3 j hj hji)
    rw [e, callK_some]
    dsimp only
    rw [grd_pos ⟨by omega, by omega, by simp⟩, grd_pos (appOk_of _ _ (by simp only [List.length_cons, List.length_nil]; omega)), Int.toNat_natCast, c1, c2]
    simp
  · rw [if_pos hk, if_neg hk]
theorem pl_apply {s : List Pair} (h : State s) (hl : s.length ≤ 10000000) {r : Record} (hr : okRec r = true) : p_impl_ApplyRecord s r = some (upd s r, 0) := by
  unfold p_impl_ApplyRecord
  rw [pl_pairs h (by omega), callK_some, if_pos rfl, pl_iRec, callK_some, if_pos hr, pl_applied h hl, callK_some]
theorem less_or {R : Type} (a b : ByteArray) (x y : Option R) : (if (Op.bytesLess a.toList b.toList || a.toList == b.toList) = true then x else y) = (if Op.bytesLess b.toList a.toList = true then y else x) := by
  have h := less_not a b
  cases hx : (Op.bytesLess a.toList b.toList || a.toList == b.toList) <;> rw [hx] at h <;> rw [← h] <;> rfl
theorem pairs_same (s : List Pair) : p_impl_pairsOk s = p_spec_l24State s := by
  unfold p_impl_pairsOk p_spec_l24State
  simp only [pl_iKey, pl_sKey, callK_some, less_or]
theorem pl_state (s : List Pair) (hl : s.length ≤ 100000000) : ∃ b, p_spec_l24State s = some b ∧ (b = true → State s) := by
  unfold p_spec_l24State
  rw [grd_pos (by omega)]
  refine forK_ex (fun i _ => (∀ p ∈ s.take i, okKey p.Key = true ∧ p.Value.size ≤ 16) ∧ (s.take i).Pairwise pl2) (fun i hi _ hv nx hnx => ?_) (fun _ hv => ⟨true, rfl, fun _ => ?_⟩) () ⟨by simp, by simp⟩
  · obtain ⟨h1, h2⟩ := hv
    rw [pl_sKey, callK_some]
    by_cases k : okKey s[i].Key = true
    · rw [if_pos k]
      by_cases v : (s[i].Value.size : Int) > 16
      · rw [if_pos v]; exact ⟨_, rfl, by simp⟩
      rw [if_neg v]
      have ok : ∀ p ∈ s.take (i + 1), okKey p.Key = true ∧ p.Value.size ≤ 16 := fun p hp => by
        rw [List.take_succ_eq_append_getElem hi, List.mem_append, List.mem_singleton] at hp
        rcases hp with hp | rfl
        · exact h1 p hp
        · exact ⟨k, by omega⟩
      have srt : (∀ x ∈ s.take i, kl x.Key s[i].Key) → (s.take (i + 1)).Pairwise pl2 := fun h => by
        rw [List.take_succ_eq_append_getElem hi, List.pairwise_append]
        exact ⟨h2, by simp, fun x hx y hy => by rw [List.mem_singleton] at hy; subst hy; exact h x hx⟩
      by_cases h0 : (i : Int) > 0
      · rw [if_pos h0, wrap_sm _ (by omega) (by omega), show (i : Int) - 1 = ((i - 1 : Nat) : Int) by omega, getK_lt (by omega)]
        by_cases hk : Op.bytesLess (s[i - 1]'(by omega)).Key.toList s[i].Key.toList = true
        · rw [if_pos hk]
          refine hnx () ⟨ok, srt fun x hx => ?_⟩
          obtain ⟨j, hj, rfl⟩ := List.mem_take_iff_getElem.mp hx
          by_cases e : j = i - 1
          · subst e; exact hk
          · have := List.pairwise_iff_getElem.mp h2 j (i - 1) (by simp; omega) (by simp; omega) (by omega)
            simp only [List.getElem_take] at this
            exact kl_tr _ _ _ this hk
        · rw [if_neg hk]; exact ⟨_, rfl, by simp⟩
      · rw [if_neg h0]
        exact hnx () ⟨ok, srt fun x hx => by have : i = 0 := by omega
                                             subst this; simp at hx⟩
    · rw [if_neg k]; exact ⟨_, rfl, by simp⟩
  · rw [List.take_length] at hv; exact ⟨hv.1, hv.2⟩
theorem upd_snoc (l : List Pair) (x : Pair) (r : Record) (h : r.Kind = 1 → ¬ kl x.Key r.Key) : upd (l ++ [x]) r = upd l r ++ (if aff r x.Key = true then [] else [x]) := by
  have hc : [x].filter (fun p => !aff r p.Key) = if aff r x.Key = true then [] else [x] := by
    by_cases a : aff r x.Key = true <;> simp [a]
  unfold upd
  dsimp only
  rw [List.filter_append, hc]
  by_cases hk : r.Kind = 1
  · rw [if_pos hk, if_pos hk, List.filter_append, List.filter_append]
    have h1 : (if aff r x.Key = true then [] else [x]).filter (fun p : Pair => @decide (kl p.Key r.Key) (Classical.propDecidable _)) = [] := by
      split
      · rfl
      · simp [h hk]
    have h2 : (if aff r x.Key = true then [] else [x]).filter (fun p : Pair => !@decide (kl p.Key r.Key) (Classical.propDecidable _)) = if aff r x.Key = true then [] else [x] := by
      split
      · rfl
      · simp [h hk]
    rw [h1, h2]
    simp
  · rw [if_neg hk, if_neg hk]
theorem upd_end (l : List Pair) (r : Record) (hk : r.Kind = 1) (h : ∀ y ∈ l, ¬ kl r.Key y.Key) : upd l r = l.filter (fun p => !aff r p.Key) ++ [⟨r.Key, r.Value⟩] := by
  unfold upd
  dsimp only
  rw [if_pos hk]
  have hlt : ∀ y ∈ l.filter (fun p => !aff r p.Key), kl y.Key r.Key := fun y hy => by
    obtain ⟨h1, h2⟩ := List.mem_filter.mp hy
    refine Classical.byContradiction fun hn => ?_
    have e := kl_tri _ _ hn (h y h1)
    rw [Bool.not_eq_true'] at h2
    unfold aff at h2
    rw [if_neg (by omega), str_eq, e] at h2
    simp at h2
  have h1 : (l.filter (fun p => !aff r p.Key)).filter (fun p : Pair => @decide (kl p.Key r.Key) (Classical.propDecidable _)) = l.filter (fun p => !aff r p.Key) := List.filter_eq_self.mpr fun y hy => by simpa using hlt y hy
  have h2 : (l.filter (fun p => !aff r p.Key)).filter (fun p : Pair => !@decide (kl p.Key r.Key) (Classical.propDecidable _)) = [] := List.filter_eq_nil_iff.mpr fun y hy => by simpa using hlt y hy
  rw [h1, h2]
theorem flt_add {α : Type} (l : List α) (p : α → Bool) : l.length = (l.filter p).length + (l.filter fun x => !p x).length := by
  induction l with
  | nil => rfl
  | cons x l ih =>
    cases h : p x <;> simp [h, ih] <;> omega
theorem upd_len (s : List Pair) (r : Record) : (upd s r).length ≤ s.length + 1 := by
  unfold upd
  dsimp only
  have h1 := List.length_filter_le (fun p : Pair => !aff r p.Key) s
  split
  · have h2 := flt_add (s.filter fun p => !aff r p.Key) (fun p : Pair => @decide (kl p.Key r.Key) (Classical.propDecidable _))
    simp only [List.length_append, List.length_cons]
    omega
  · omega
theorem pl_sApply {s : List Pair} (h : State s) (hl : s.length ≤ 10000000) {r : Record} (hr : okRec r = true) (e : p_spec_l24State s = some true) : p_spec_ApplyRecord s r = some (upd s r, 0) := by
  unfold p_spec_ApplyRecord
  rw [e, callK_some, if_pos rfl, pl_sRec, callK_some, if_pos hr, grd_pos (by omega)]
  refine forK_rule (fun i (t : Bool × List Pair) => if t.1 = true then t.2 = upd (s.take i) r ∧ (r.Kind = 1 → ∃ y ∈ s.take i, kl r.Key y.Key) else r.Kind = 1 ∧ t.2 = (s.take i).filter (fun p => !aff r p.Key) ∧ ∀ y ∈ s.take i, ¬ kl r.Key y.Key) (fun i hi t ht nx hnx => ?_) (fun t ht => ?_) _ ?_
  · obtain ⟨b, v⟩ := t
    have hlt : (s.take i).length = i := by rw [List.length_take]; omega
    have hfl := List.length_filter_le (fun p : Pair => !aff r p.Key) (s.take i)
    have hul := upd_len (s.take i) r
    have hfs : (s.take (i + 1)).filter (fun p => !aff r p.Key) = (s.take i).filter (fun p => !aff r p.Key) ++ (if aff r s[i].Key = true then [] else [s[i]]) := by
      rw [List.take_succ_eq_append_getElem hi, List.filter_append]
      by_cases a : aff r s[i].Key = true <;> simp [a]
    have hmono : ∀ y ∈ s.take i, kl y.Key s[i].Key := fun y hy => by
      obtain ⟨j, hj, rfl⟩ := List.mem_take_iff_getElem.mp hy
      exact List.pairwise_iff_getElem.mp h.srt j i (by omega) hi (by omega)
    cases b with
    | true =>
      rw [if_pos rfl] at ht
      obtain ⟨rfl, hb⟩ := ht
      dsimp only
      have hs : upd (s.take (i + 1)) r = upd (s.take i) r ++ (if aff r s[i].Key = true then [] else [s[i]]) := by
        rw [List.take_succ_eq_append_getElem hi]
        refine upd_snoc _ _ _ fun hk => ?_
        obtain ⟨y, hy, h1⟩ := hb hk
        exact kl_as (kl_tr _ _ _ h1 (hmono y hy))
      have hb2 : r.Kind = 1 → ∃ y ∈ s.take (i + 1), kl r.Key y.Key := fun hk => by
        obtain ⟨y, hy, h1⟩ := hb hk
        exact ⟨y, by rw [List.take_succ_eq_append_getElem hi]; exact List.mem_append_left _ hy, h1⟩
      rw [if_pos rfl, pl_sAff, callK_some]
      by_cases a : aff r s[i].Key = true
      · rw [if_pos a] at hs ⊢
        exact hnx _ (by rw [if_pos rfl]; exact ⟨by rw [hs, List.append_nil], hb2⟩)
      · rw [if_neg a] at hs ⊢
        rw [grd_pos (appOk_of _ _ (by omega))]
        exact hnx _ (by rw [if_pos rfl]; exact ⟨hs.symm, hb2⟩)
    | false =>
      rw [if_neg (by simp)] at ht
      obtain ⟨hk, rfl, hb⟩ := ht
      dsimp only
      rw [if_neg (by simp)]
      by_cases hc : Op.bytesLess r.Key.toList s[i].Key.toList = true
      · have hs : upd (s.take (i + 1)) r = (s.take i).filter (fun p => !aff r p.Key) ++ [⟨r.Key, r.Value⟩] ++ (if aff r s[i].Key = true then [] else [s[i]]) := by
          rw [List.take_succ_eq_append_getElem hi, upd_snoc _ _ _ (fun _ => kl_as hc), upd_end _ _ hk hb]
        have hb2 : r.Kind = 1 → ∃ y ∈ s.take (i + 1), kl r.Key y.Key := fun hk => ⟨s[i], by rw [List.take_succ_eq_append_getElem hi]; exact List.mem_append_right _ (List.mem_singleton.mpr rfl), hc⟩
        rw [if_pos hc, grd_pos (appOk_of _ _ (by omega)), pl_sAff, callK_some]
        by_cases a : aff r s[i].Key = true
        · rw [if_pos a] at hs ⊢
          exact hnx _ (by rw [if_pos rfl]; exact ⟨by rw [hs, List.append_nil], hb2⟩)
        · rw [if_neg a] at hs ⊢
          rw [grd_pos (appOk_of _ _ (by simp only [List.length_append, List.length_cons, List.length_nil]; omega))]
          exact hnx _ (by rw [if_pos rfl]; exact ⟨hs.symm, hb2⟩)
      · have hb2 : ∀ y ∈ s.take (i + 1), ¬ kl r.Key y.Key := fun y hy => by
          rw [List.take_succ_eq_append_getElem hi, List.mem_append, List.mem_singleton] at hy
          rcases hy with hy | rfl
          · exact hb y hy
          · exact hc
        rw [if_neg hc, pl_sAff, callK_some]
        by_cases a : aff r s[i].Key = true
        · rw [if_pos a] at hfs ⊢
          exact hnx _ (by rw [if_neg (by simp)]; exact ⟨hk, by rw [hfs, List.append_nil], hb2⟩)
        · rw [if_neg a] at hfs ⊢
          rw [grd_pos (appOk_of _ _ (by omega))]
          exact hnx _ (by rw [if_neg (by simp)]; exact ⟨hk, hfs.symm, hb2⟩)
  · obtain ⟨b, v⟩ := t
    rw [List.take_length] at ht
    have hfl := List.length_filter_le (fun p : Pair => !aff r p.Key) s
    cases b with
    | true =>
      rw [if_pos rfl] at ht
      dsimp only at ht ⊢
      rw [if_pos rfl, ht.1]
    | false =>
      rw [if_neg (by simp)] at ht
      obtain ⟨hk, rfl, hb⟩ := ht
      dsimp only
      rw [if_neg (by simp), grd_pos (appOk_of _ _ (by omega)), upd_end _ _ hk hb]
  · by_cases hk : r.Kind = 1
    · rw [if_neg (by simp [hk])]
      exact ⟨hk, by simp, by simp⟩
    · rw [if_pos (by simpa using hk)]
      refine ⟨?_, fun h => absurd h hk⟩
      unfold upd
      dsimp only
      rw [if_neg hk]; simp
/-- Both sides answer alike, whatever the state. -/
theorem pl_both (v : List Pair) (hl : v.length ≤ 10000000) (r : Record) : ∃ u c, p_impl_ApplyRecord v r = some (u, c) ∧ p_spec_ApplyRecord v r = some (u, c) ∧ u.length ≤ v.length + 1 := by
  obtain ⟨b, e, hb⟩ := pl_state v (by omega)
  cases b with
  | false =>
    refine ⟨[], 1, ?_, ?_, by simp⟩
    · unfold p_impl_ApplyRecord; rw [pairs_same, e, callK_some, if_neg (by simp)]
    · unfold p_spec_ApplyRecord; rw [e, callK_some, if_neg (by simp)]
  | true =>
    by_cases hr : okRec r = true
    · exact ⟨_, 0, pl_apply (hb rfl) hl hr, pl_sApply (hb rfl) hl hr e, upd_len v r⟩
    · refine ⟨[], 1, ?_, ?_, by simp⟩
      · unfold p_impl_ApplyRecord; rw [pairs_same, e, callK_some, if_pos rfl, pl_iRec, callK_some, if_neg hr]
      · unfold p_spec_ApplyRecord; rw [e, callK_some, if_pos rfl, pl_sRec, callK_some, if_neg hr]

theorem cat_ok {R : Type} {a b : ByteArray} (h : a.size + b.size ≤ 9000000000000000000) (x : Option R) : grd (((ByteArray.size a + ByteArray.size b : Nat) : Int) ≤ 9223372036854775807) x = x := grd_pos (by omega) x
/-! ### Marks -/
theorem pl_mText (k : Int) (h : 0 ≤ k ∧ k ≤ 1000000000000000) : ∃ t, p_laws_markText k = some t := by
  unfold p_laws_markText
  by_cases h0 : k ≤ 0
  · rw [if_pos h0]; exact ⟨_, rfl⟩
  rw [if_neg h0]
  have := iterK_ex (R := ByteArray) (Q := fun _ => True) (f := fun ((v2, v3) : (Int × ByteArray)) (nx4 : (Int × ByteArray) → Option ByteArray) =>
      if v2 > 0 then
        grd (((ByteArray.size (bytesOf ([[.lit (.int .u8 (IntKind.u8.wrap (IntKind.i64.wrap (48 + (Int.tmod v2 10)))))]] : List (List D))) + ByteArray.size v3 : Nat) : Int) ≤ 9223372036854775807) <|
        nx4 ((IntKind.i64.wrap (Int.tdiv v2 10)), ((bytesOf ([[.lit (.int .u8 (IntKind.u8.wrap (IntKind.i64.wrap (48 + (Int.tmod v2 10)))))]] : List (List D))) ++ v3))
      else
        grd (((ByteArray.size (⟨#[109]⟩ : ByteArray) + ByteArray.size v3 : Nat) : Int) ≤ 9223372036854775807) <|
        some ((⟨#[109]⟩ : ByteArray) ++ v3)) (fun d (s : Int × ByteArray) => 0 ≤ s.1 ∧ s.1 ≤ 1000000000000000 ∧ d = s.1.toNat ∧ s.2.size + s.1.toNat ≤ 1000000000000000) (fun d s hs nx hnx => by
      obtain ⟨v2, v3⟩ := s
      obtain ⟨g1, g2, g3, g4⟩ := hs
      dsimp only at g1 g2 g3 g4 ⊢
      have hb : ∀ x : Int, (bytesOf ([[.lit (.int .u8 x)]] : List (List D))).size = 1 := fun _ => rfl
      by_cases hc : v2 > 0
      · have hq := Int.tdiv_eq_ediv_of_nonneg (a := v2) (b := 10) (by omega)
        rw [if_pos hc, cat_ok (by rw [hb]; omega), wrap_sm (Int.tdiv v2 10) (by omega) (by omega)]
        refine hnx (Int.tdiv v2 10).toNat _ (by omega) ⟨by dsimp only; omega, by dsimp only; omega, rfl, ?_⟩
        dsimp only
        rw [ByteArray.size_append, hb]; omega
      · rw [if_neg hc, cat_ok (by show 1 + v3.size ≤ _; omega)]
        exact ⟨_, rfl, trivial⟩) k.toNat (k, ⟨#[]⟩) (by unfold NN; omega) ⟨h.1, h.2, rfl, by show 0 + k.toNat ≤ _; omega⟩
  obtain ⟨t, e, _⟩ := this
  exact ⟨t, e⟩
noncomputable def mT (k : Int) : ByteArray := (p_laws_markText k).getD ⟨#[]⟩
theorem mT_ok (k : Int) (h : 0 ≤ k ∧ k ≤ 1000000000000000) : p_laws_markText k = some (mT k) := by
  obtain ⟨t, e⟩ := pl_mText k h
  unfold mT
  rw [e]; rfl
theorem w1 (k : Int) (h : 0 ≤ k ∧ k ≤ 1000000000000000) : IntKind.i64.wrap (k + 1) = k + 1 := wrap_sm _ (by omega) (by omega)

/-! ### Two loops, side by side -/
theorem forK_both {α β σ R1 R2 : Type} {l : List α} {m : List β} (hm : m.length = l.length) {f : Nat → α → σ → (σ → Option R1) → Option R1} {g : Nat → β → σ → (σ → Option R2) → Option R2} {k1 : σ → Option R1} {k2 : σ → Option R2} {Q : Option R1 → Option R2 → Prop} (J : Nat → σ → Prop)
    (round : ∀ (i : Nat) (hi : i < l.length) (s : σ), J i s → ∀ nx1 nx2, (∀ s', J (i + 1) s' → Q (nx1 s') (nx2 s')) → Q (f i l[i] s nx1) (g i (m[i]'(by omega)) s nx2)) (last : ∀ s, J l.length s → Q (k1 s) (k2 s)) (s : σ) (h0 : J 0 s) : Q (forK l f s k1) (forK m g s k2) := by
  have go : ∀ (n i : Nat) (s : σ), i ≤ l.length → l.length - i = n → J i s → Q (forGo f k1 i (l.drop i) s) (forGo g k2 i (m.drop i) s) := by
    intro n
    induction n with
    | zero =>
      intro i s h1 h2 h3
      obtain rfl : i = l.length := by omega
      rw [List.drop_length, ← hm, List.drop_length]; exact last s h3
    | succ n ih =>
      intro i s h1 h2 h3
      rw [List.drop_eq_getElem_cons (by omega : i < l.length), List.drop_eq_getElem_cons (by omega : i < m.length)]
      exact round i (by omega) s h3 _ _ fun s' h => ih (i + 1) s' (by omega) (by omega) h
  exact go l.length 0 s (by omega) (by omega) h0
/-! ### Lists of lists: their sizes -/
def tT {α : Type} (L : List (List α)) : Nat := (L.map List.length).sum
theorem tT_nil {α : Type} : tT ([] : List (List α)) = 0 := rfl
theorem tT_cons {α : Type} (b : List α) (L : List (List α)) : tT (b :: L) = b.length + tT L := by simp [tT]
theorem tT_app {α : Type} (L M : List (List α)) : tT (L ++ M) = tT L + tT M := by simp [tT]
theorem tT_take {α : Type} (L : List (List α)) (i : Nat) : tT (L.take i) ≤ tT L := by
  have h := tT_app (L.take i) (L.drop i)
  rw [List.take_append_drop] at h
  omega
theorem tT_take1 {α : Type} (L : List (List α)) (i : Nat) (h : i < L.length) : tT (L.take (i + 1)) = tT (L.take i) + L[i].length := by
  rw [List.take_succ_eq_append_getElem h, tT_app, tT_cons, tT_nil]; omega
theorem tT_mem {α : Type} (L : List (List α)) (i : Nat) (h : i < L.length) : L[i].length ≤ tT L := by
  have := tT_take1 L i h
  have := tT_take L (i + 1)
  omega
theorem tT_le {α : Type} : ∀ (L : List (List α)), (∀ l ∈ L, l.length ≤ 1048576) → tT L ≤ 1048576 * L.length
  | [], _ => by simp [tT]
  | l :: L, h => by
    rw [tT_cons, List.length_cons]
    have h1 := h l (by simp)
    have h2 := tT_le L fun x hx => h x (by simp [hx])
    omega
/-! ### The states after each batch -/
theorem pl_states (s : List Pair) (L : List (List Record)) (hL : s.length + L.length + tT L ≤ 1048576) : ∃ X, p_impl_StatesAfter s L = some X ∧ p_spec_StatesAfter s L = some X ∧ X.length ≤ 1048577 ∧ ∀ l ∈ X, l.length ≤ 1048576 := by
  unfold p_impl_StatesAfter p_spec_StatesAfter
  rw [grd_pos (appOk_of _ _ (by omega)), grd_pos (by omega), grd_pos (appOk_of _ _ (by omega)), grd_pos (appOk_of _ _ (by omega)), grd_pos (by omega)]
  refine forK_both (Q := fun (a b : Option (List (List Pair))) => ∃ X : List (List Pair), a = some X ∧ b = some X ∧ X.length ≤ 1048577 ∧ ∀ l ∈ X, l.length ≤ 1048576) rfl (fun i (t : List Pair × List (List Pair)) => t.1.length ≤ s.length + tT (L.take i) ∧ t.2.length = i + 1 ∧ ∀ l ∈ t.2, l.length ≤ 1048576) (fun i hi t ht nx1 nx2 hnx => ?_) (fun t ht => ?_) _ ?_
  · obtain ⟨v, X⟩ := t
    obtain ⟨h1, h2, h3⟩ := ht
    dsimp only at h1 h2 h3 ⊢
    have hb1 := tT_take1 L i hi
    have hb2 := tT_take L (i + 1)
    rw [grd_pos (by omega), grd_pos (by omega)]
    unfold forI
    refine forK_both (Q := fun (a b : Option (List (List Pair))) => ∃ X : List (List Pair), a = some X ∧ b = some X ∧ X.length ≤ 1048577 ∧ ∀ l ∈ X, l.length ≤ 1048576) (by simp) (fun j (v : List Pair) => v.length ≤ s.length + tT (L.take i) + j) (fun j hj v hv nx3 nx4 hnx2 => ?_) (fun v hv => ?_) v (by omega)
    · simp only [List.getElem_range]
      rw [getK_lt hj]
      obtain ⟨u, c, e1, e2, e3⟩ := pl_both v (by omega) ⟨L[i][j].Key, 1, L[i][j].Kind, L[i][j].Value, L[i][j].End⟩
      rw [e1, e2, callK_some, callK_some]
      dsimp only
      by_cases hc : c = 0
      · rw [if_neg (by simp [hc]), if_neg (by simp [hc])]
        exact hnx2 u (by omega)
      · rw [if_pos hc, if_pos hc]
        exact ⟨_, rfl, rfl, by simp, by simp⟩
    · rw [grd_pos (appOk_of _ _ (by omega)), grd_pos (appOk_of _ _ (by omega)), grd_pos (appOk_of _ _ (by omega)), grd_pos (appOk_of _ _ (by omega))]
      refine hnx _ ⟨by dsimp only; omega, by simp [h2], fun l hl => ?_⟩
      rcases List.mem_append.mp hl with hl | hl
      · exact h3 l hl
      · rw [List.mem_singleton] at hl
        subst hl
        omega
  · exact ⟨_, rfl, rfl, by omega, ht.2.2⟩
  · refine ⟨by simp, rfl, fun l hl => ?_⟩
    rw [List.mem_singleton] at hl
    subst hl
    omega
/-! ### Sizes -/
theorem pl_szP (p : Pair) (n : Int) (hp : okPair p) (hn : 0 ≤ n ∧ n ≤ 1048576) : ∃ r, p_laws_szPair p n = some r ∧ r ≤ n := by
  have h1 : p.Key.size ≤ 9223372036854775807 := hp.1
  have h2 : p.Value.size ≤ 9223372036854775807 := hp.2
  unfold p_laws_szPair
  have w1 : IntKind.i64.wrap (n - (p.Key.size : Int)) = n - (p.Key.size : Int) := wrap_sm _ (by omega) (by omega)
  rw [w1]
  by_cases c1 : n - (p.Key.size : Int) < 0
  · rw [if_pos c1]; exact ⟨_, rfl, by omega⟩
  have w2 : IntKind.i64.wrap (n - (p.Key.size : Int) - (p.Value.size : Int)) = n - (p.Key.size : Int) - (p.Value.size : Int) := wrap_sm _ (by omega) (by omega)
  rw [if_neg c1, w2]
  by_cases c2 : n - (p.Key.size : Int) - (p.Value.size : Int) < 0
  · rw [if_pos c2]; exact ⟨_, rfl, by omega⟩
  · rw [if_neg c2]; exact ⟨_, rfl, by omega⟩
theorem pl_szPs (l : List Pair) (n : Int) (hl : okL okPair l) (hn : 0 ≤ n ∧ n ≤ 1048576) : ∃ r, p_laws_szPairS l n = some r ∧ (r < 0 ∨ (0 ≤ r ∧ r + l.length ≤ n)) := by
  unfold p_laws_szPairS
  have h1 := hl.1
  have hw : IntKind.i64.wrap (n - (l.length : Int)) = n - (l.length : Int) := wrap_sm _ (by omega) (by omega)
  rw [hw]
  by_cases h0 : n - (l.length : Int) < 0
  · rw [if_pos h0]; exact ⟨_, rfl, .inl (by omega)⟩
  rw [if_neg h0, grd_pos (by omega)]
  refine forK_ex (fun _ (v : Int) => 0 ≤ v ∧ v ≤ n - l.length) (fun i hi v hv nx hnx => ?_) (fun v hv => ⟨v, rfl, .inr (by omega)⟩) _ ⟨by omega, by omega⟩
  obtain ⟨y, e, hy⟩ := pl_szP l[i] v (hl.2 _ (List.getElem_mem hi)) (by omega)
  rw [e, callK_some]
  by_cases h2 : y < 0
  · rw [if_pos h2]; exact ⟨_, rfl, .inl (by omega)⟩
  · rw [if_neg h2]; exact hnx _ (by omega)
theorem pl_szR (p : Record) (n : Int) (hp : okRecord p) (hn : 0 ≤ n ∧ n ≤ 1048576) : ∃ r, p_laws_szRecord p n = some r ∧ r ≤ n := by
  have h1 : p.Key.size ≤ 9223372036854775807 := hp.1
  have h2 : p.Value.size ≤ 9223372036854775807 := hp.2.2.2.1
  have h3 : p.End.size ≤ 9223372036854775807 := hp.2.2.2.2
  unfold p_laws_szRecord
  have w1 : IntKind.i64.wrap (n - (p.Key.size : Int)) = n - (p.Key.size : Int) := wrap_sm _ (by omega) (by omega)
  rw [w1]
  by_cases c1 : n - (p.Key.size : Int) < 0
  · rw [if_pos c1]; exact ⟨_, rfl, by omega⟩
  have w2 : IntKind.i64.wrap (n - (p.Key.size : Int) - (p.Value.size : Int)) = n - (p.Key.size : Int) - (p.Value.size : Int) := wrap_sm _ (by omega) (by omega)
  rw [if_neg c1, w2]
  by_cases c2 : n - (p.Key.size : Int) - (p.Value.size : Int) < 0
  · rw [if_pos c2]; exact ⟨_, rfl, by omega⟩
  have w3 : IntKind.i64.wrap (n - (p.Key.size : Int) - (p.Value.size : Int) - (p.End.size : Int)) = n - (p.Key.size : Int) - (p.Value.size : Int) - (p.End.size : Int) := wrap_sm _ (by omega) (by omega)
  rw [if_neg c2, w3]
  by_cases c3 : n - (p.Key.size : Int) - (p.Value.size : Int) - (p.End.size : Int) < 0
  · rw [if_pos c3]; exact ⟨_, rfl, by omega⟩
  · rw [if_neg c3]; exact ⟨_, rfl, by omega⟩
theorem pl_szRs (l : List Record) (n : Int) (hl : okL okRecord l) (hn : 0 ≤ n ∧ n ≤ 1048576) : ∃ r, p_laws_szRecordS l n = some r ∧ (r < 0 ∨ (0 ≤ r ∧ r + l.length ≤ n)) := by
  unfold p_laws_szRecordS
  have h1 := hl.1
  have hw : IntKind.i64.wrap (n - (l.length : Int)) = n - (l.length : Int) := wrap_sm _ (by omega) (by omega)
  rw [hw]
  by_cases h0 : n - (l.length : Int) < 0
  · rw [if_pos h0]; exact ⟨_, rfl, .inl (by omega)⟩
  rw [if_neg h0, grd_pos (by omega)]
  refine forK_ex (fun _ (v : Int) => 0 ≤ v ∧ v ≤ n - l.length) (fun i hi v hv nx hnx => ?_) (fun v hv => ⟨v, rfl, .inr (by omega)⟩) _ ⟨by omega, by omega⟩
  obtain ⟨y, e, hy⟩ := pl_szR l[i] v (hl.2 _ (List.getElem_mem hi)) (by omega)
  rw [e, callK_some]
  by_cases h2 : y < 0
  · rw [if_pos h2]; exact ⟨_, rfl, .inl (by omega)⟩
  · rw [if_neg h2]; exact hnx _ (by omega)
theorem pl_szRSS (L : List (List Record)) (n : Int) (hl : okL (okL okRecord) L) (hn : 0 ≤ n ∧ n ≤ 1048576) : ∃ r, p_laws_szRecordSS L n = some r ∧ (r < 0 ∨ (0 ≤ r ∧ r + L.length + tT L ≤ n)) := by
  unfold p_laws_szRecordSS
  have h1 := hl.1
  have hw : IntKind.i64.wrap (n - (L.length : Int)) = n - (L.length : Int) := wrap_sm _ (by omega) (by omega)
  rw [hw]
  by_cases h0 : n - (L.length : Int) < 0
  · rw [if_pos h0]; exact ⟨_, rfl, .inl (by omega)⟩
  rw [if_neg h0, grd_pos (by omega)]
  refine forK_ex (fun i (v : Int) => 0 ≤ v ∧ v + tT (L.take i) ≤ n - L.length) (fun i hi v hv nx hnx => ?_) (fun v hv => ⟨v, rfl, .inr ?_⟩) _ ⟨by omega, by rw [List.take_zero, tT_nil]; omega⟩
  · obtain ⟨y, e, hy⟩ := pl_szRs L[i] v (hl.2 _ (List.getElem_mem hi)) (by omega)
    have := tT_take1 L i hi
    rw [e, callK_some]
    by_cases h2 : y < 0
    · rw [if_pos h2]; exact ⟨_, rfl, .inl (by omega)⟩
    · rw [if_neg h2]; exact hnx _ (by omega)
  · rw [List.take_length] at hv; omega
/-! ### Copies -/
theorem pl_toPs (l : List Pair) (hl : l.length ≤ 1048576) : p_laws_toPairS l = some l := by
  unfold p_laws_toPairS
  rw [grd_pos (mkOk_nat _ _ _ (by omega) rfl rfl), grd_pos (by omega), Int.toNat_natCast]
  refine forK_rule (fun i (v : List Pair) => v.length = l.length ∧ v.take i = l.take i) (fun i hi v hv nx hnx => ?_) (fun v hv => ?_) _ ⟨by simp, by simp⟩
  · have e : p_laws_toPair l[i] = some () := rfl
    rw [e, callK_some, getK_lt (by omega), Int.toNat_natCast]
    refine hnx _ ⟨by simpa using hv.1, ?_⟩
    rw [List.take_succ_eq_append_getElem (by simp; omega), List.take_set_of_le (by omega), hv.2, List.take_succ_eq_append_getElem hi, List.getElem_set_self]
  · have h1 : v.take l.length = v := List.take_of_length_le (by omega)
    have h2 := hv.2
    rw [h1, List.take_length] at h2
    rw [h2]
theorem pl_toRs (l : List Record) (hl : l.length ≤ 1048576) : p_laws_toRecordS l = some l := by
  unfold p_laws_toRecordS
  rw [grd_pos (mkOk_nat _ _ _ (by omega) rfl rfl), grd_pos (by omega), Int.toNat_natCast]
  refine forK_rule (fun i (v : List Record) => v.length = l.length ∧ v.take i = l.take i) (fun i hi v hv nx hnx => ?_) (fun v hv => ?_) _ ⟨by simp, by simp⟩
  · have e : p_laws_toRecord l[i] = some () := rfl
    rw [e, callK_some, getK_lt (by omega), Int.toNat_natCast]
    refine hnx _ ⟨by simpa using hv.1, ?_⟩
    rw [List.take_succ_eq_append_getElem (by simp; omega), List.take_set_of_le (by omega), hv.2, List.take_succ_eq_append_getElem hi, List.getElem_set_self]
  · have h1 : v.take l.length = v := List.take_of_length_le (by omega)
    have h2 := hv.2
    rw [h1, List.take_length] at h2
    rw [h2]
theorem pl_toRSS (l : List (List Record)) (hl : l.length + tT l ≤ 1048576) : p_laws_toRecordSS l = some l := by
  unfold p_laws_toRecordSS
  rw [grd_pos (mkOk_nat _ _ _ (by omega) rfl rfl), grd_pos (by omega), Int.toNat_natCast]
  refine forK_rule (fun i (v : List (List Record)) => v.length = l.length ∧ v.take i = l.take i) (fun i hi v hv nx hnx => ?_) (fun v hv => ?_) _ ⟨by simp, by simp⟩
  · rw [pl_toRs _ (by have := tT_mem l i hi; omega), callK_some, getK_lt (by omega), Int.toNat_natCast]
    refine hnx _ ⟨by simpa using hv.1, ?_⟩
    rw [List.take_succ_eq_append_getElem (by simp; omega), List.take_set_of_le (by omega), hv.2, List.take_succ_eq_append_getElem hi, List.getElem_set_self]
  · have h1 : v.take l.length = v := List.take_of_length_le (by omega)
    have h2 := hv.2
    rw [h1, List.take_length] at h2
    rw [grd_pos hv.1.symm, h2]
/-! ### Comparison -/
theorem pl_eqPs (l : List Pair) (h : l.length ≤ 1048576) : p_laws_eqPairS l l = some true := by
  unfold p_laws_eqPairS
  rw [if_neg (by simp), grd_pos (by omega)]
  refine forK_rule (fun _ _ => True) (fun i hi s _ nx hnx => ?_) (fun s _ => rfl) () trivial
  have e : p_laws_eqPair l[i] l[i] = some true := by unfold p_laws_eqPair; simp
  rw [getK_lt hi, e, callK_some, if_pos rfl]
  exact hnx () trivial
theorem pl_eqPSS (L : List (List Pair)) (h : L.length ≤ 1048577) (h2 : ∀ l ∈ L, l.length ≤ 1048576) : p_laws_eqPairSS L L = some true := by
  unfold p_laws_eqPairSS
  rw [if_neg (by simp), grd_pos (by omega)]
  refine forK_rule (fun _ _ => True) (fun i hi s _ nx hnx => ?_) (fun s _ => rfl) () trivial
  rw [getK_lt hi, pl_eqPs _ (h2 _ (List.getElem_mem hi)), callK_some, if_pos rfl]
  exact hnx () trivial
theorem pl_eqRs (l : List Record) (h : l.length ≤ 1048576) : p_laws_eqRecordS l l = some true := by
  unfold p_laws_eqRecordS
  rw [if_neg (by simp), grd_pos (by omega)]
  refine forK_rule (fun _ _ => True) (fun i hi s _ nx hnx => ?_) (fun s _ => rfl) () trivial
  have e : p_laws_eqRecord l[i] l[i] = some true := by unfold p_laws_eqRecord; simp
  rw [getK_lt hi, e, callK_some, if_pos rfl]
  exact hnx () trivial
theorem pl_eqRSS (L : List (List Record)) (h : L.length + tT L ≤ 1048576) : p_laws_eqRecordSS L L = some true := by
  unfold p_laws_eqRecordSS
  rw [if_neg (by simp), grd_pos (by omega)]
  refine forK_rule (fun _ _ => True) (fun i hi s _ nx hnx => ?_) (fun s _ => rfl) () trivial
  rw [getK_lt hi, pl_eqRs _ (by have := tT_mem L i hi; omega), callK_some, if_pos rfl]
  exact hnx () trivial
/-! ### Marks -/
theorem getK_set {α R : Type} {l : List α} {n : Nat} {x : α} (h : n < l.length) (k : α → Option R) : getK (l.set n x) (n : Int) k = k x := by
  rw [getK_lt (by simpa using h)]
  simp
theorem getN_set {α R : Type} {l : List α} {n : Nat} {x : α} (h : n < l.length) (k : α → Option R) : getN (l.set n x) n k = k x := by
  rw [getN_lt (by simpa using h)]
  simp
theorem pl_markPs (k : Int) (l : List Pair) (hk : 0 ≤ k ∧ k ≤ 100000000) (hl : l.length ≤ 1048576) : ∃ r, p_laws_markPairS k l = some r ∧ r.1 = k + 2 * l.length := by
  unfold p_laws_markPairS
  refine iterK_ex (fun d (s : Int × Int × List Pair) => ∃ i : Nat, s.1 = k + 2 * i ∧ s.2.1 = i ∧ i + d = l.length ∧ s.2.2.length = l.length) ?_ l.length _ (by unfold NN; omega) ⟨0, by simp, rfl, by omega, rfl⟩
  rintro d ⟨v1, v2, v3⟩ ⟨i, g1, g2, g3, g4⟩ nx hnx
  dsimp only at g1 g2 g4 hnx ⊢
  subst g2
  by_cases hi : i < l.length
  · have e2 : v1 + 1 + 1 = v1 + 2 := by omega
    have q1 : IntKind.i64.wrap (v1 + 1) = v1 + 1 := wrap_sm _ (by omega) (by omega)
    have q2 : IntKind.i64.wrap (v1 + 2) = v1 + 2 := wrap_sm _ (by omega) (by omega)
    have hv : i < v3.length := by omega
    rw [if_pos (by omega), mT_ok _ (by omega), callK_some, getK_lt hv, q1, mT_ok _ (by omega), callK_some]
    simp only [Int.toNat_natCast, e2, q2, List.set_set, getK_set hv]
    rw [wrap_sm ((i : Int) + 1) (by omega) (by omega)]
    exact hnx (d - 1) _ (by omega) ⟨i + 1, by dsimp only; omega, by dsimp only; omega, by omega, by simpa using g4⟩
  · rw [if_neg (by omega)]
    exact ⟨_, rfl, by dsimp only; omega⟩
theorem pl_markRs (i : Nat) (k : Int) (L : List (List Record)) (hi : i < L.length) (hk : 0 ≤ k ∧ k ≤ 1000000000) (hl : L[i].length ≤ 1048576) : ∃ r, p_laws_markRecordS i k L = some r ∧ r.1 = k + 5 * L[i].length ∧ ∃ P, r.2 = L.set i P ∧ P.length = L[i].length := by
  unfold p_laws_markRecordS
  refine iterK_ex (fun d (s : Int × Int × List (List Record)) => ∃ (j : Nat) (P : List Record), s.1 = k + 5 * j ∧ s.2.1 = j ∧ j + d = L[i].length ∧ P.length = L[i].length ∧ s.2.2 = L.set i P) ?_ L[i].length _ (by unfold NN; omega)
    ⟨0, L[i], by simp, rfl, by omega, rfl, by simp⟩
  rintro d ⟨v1, v2, v3⟩ ⟨j, P, g1, g2, g3, g4, g5⟩ nx hnx
  dsimp only at g1 g2 g5 hnx ⊢
  subst g2 g5
  rw [getN_set hi]
  by_cases hj : j < L[i].length
  · have e2 : v1 + 1 + 1 = v1 + 2 := by omega
    have e3 : v1 + 2 + 1 = v1 + 3 := by omega
    have e4 : v1 + 3 + 1 = v1 + 4 := by omega
    have e5 : v1 + 4 + 1 = v1 + 5 := by omega
    have q1 : IntKind.i64.wrap (v1 + 1) = v1 + 1 := wrap_sm _ (by omega) (by omega)
    have q2 : IntKind.i64.wrap (v1 + 2) = v1 + 2 := wrap_sm _ (by omega) (by omega)
    have q3 : IntKind.i64.wrap (v1 + 3) = v1 + 3 := wrap_sm _ (by omega) (by omega)
    have q4 : IntKind.i64.wrap (v1 + 4) = v1 + 4 := wrap_sm _ (by omega) (by omega)
    have q5 : IntKind.i64.wrap (v1 + 5) = v1 + 5 := wrap_sm _ (by omega) (by omega)
    have hv : j < P.length := by omega
    rw [if_pos (by omega), mT_ok v1 (by omega), callK_some, getK_lt hv]
    simp only [Int.toNat_natCast, q1, e2, q2, e3, q3, e4, q4, e5, q5, mT_ok (v1 + 3) (by omega), mT_ok (v1 + 4) (by omega), callK_some, List.set_set, getN_set hi, getK_set hv]
    rw [wrap_sm ((j : Int) + 1) (by omega) (by omega)]
    exact hnx (d - 1) _ (by omega) ⟨j + 1, _, by dsimp only; omega, by dsimp only; omega, by omega, by simpa using g4, rfl⟩
  · rw [if_neg (by omega)]
    exact ⟨_, rfl, by dsimp only; omega, P, rfl, g4⟩
theorem pl_markRSS (k : Int) (L : List (List Record)) (hk : 0 ≤ k ∧ k ≤ 100000000) (hL : L.length + tT L ≤ 1048576) : ∃ r, p_laws_markRecordSS k L = some r ∧ 0 ≤ r.1 := by
  unfold p_laws_markRecordSS
  refine iterK_ex (fun d (s : Int × Int × List (List Record)) => ∃ i : Nat, s.1 = k + 5 * tT (L.take i) ∧ s.2.1 = i ∧ i + d = L.length ∧ s.2.2.length = L.length ∧ ∀ j (hj : j < L.length) (hj2 : j < s.2.2.length), s.2.2[j].length = L[j].length) ?_ L.length _ (by unfold NN; omega) ⟨0, by simp [tT], rfl, by omega, rfl, fun j hj hj2 => rfl⟩
  rintro d ⟨v1, v2, v3⟩ ⟨i, g1, g2, g3, g4, g5⟩ nx hnx
  dsimp only at g1 g2 g4 g5 hnx ⊢
  subst g2
  have ht := tT_take L i
  by_cases hi : i < L.length
  · have hv : i < v3.length := by omega
    have h1 := g5 i hi hv
    have h2 := tT_mem L i hi
    have h3 := tT_take1 L i hi
    rw [if_pos (by omega), getK_lt hv, Int.toNat_natCast]
    obtain ⟨r, e, r1, P, r2, r3⟩ := pl_markRs i v1 v3 hv (by omega) (by omega)
    rw [e, callK_some, wrap_sm ((i : Int) + 1) (by omega) (by omega), r2]
    refine hnx (d - 1) _ (by omega) ⟨i + 1, by dsimp only; rw [r1]; omega, by dsimp only; omega, by omega, by simpa using g4, fun j hj hj2 => ?_⟩
    dsimp only
    by_cases e : i = j
    · subst e; rw [List.getElem_set_self, r3, h1]
    · rw [List.getElem_set_ne e]; exact g5 j hj _
  · rw [if_neg (by omega)]
    exact ⟨_, rfl, by dsimp only; omega⟩
/-- Pairs of marks from k on. -/
noncomputable def mP (k : Int) (n : Nat) : List Pair := (List.range n).map fun (i : Nat) => ⟨mT (k + 2 * (i : Int)), mT (k + 2 * (i : Int) + 1)⟩
theorem mP_len (k : Int) (n : Nat) : (mP k n).length = n := by unfold mP; simp
theorem mP_get (k : Int) (n i : Nat) (h : i < n) : (mP k n)[i]'(by rw [mP_len]; exact h) = ⟨mT (k + 2 * i), mT (k + 2 * i + 1)⟩ := by unfold mP; simp
theorem mP_succ (k : Int) (n : Nat) : mP k (n + 1) = mP k n ++ [⟨mT (k + 2 * n), mT (k + 2 * n + 1)⟩] := by
  unfold mP
  rw [List.range_succ, List.map_append]; simp
noncomputable def mPS (k : Int) (L : List (List Pair)) : List (List Pair) := (List.range L.length).map fun (i : Nat) => mP (k + 2 * (tT (L.take i) : Int)) (L.getD i []).length
theorem mPS_len (k : Int) (L : List (List Pair)) : (mPS k L).length = L.length := by unfold mPS; simp
theorem mPS_get (k : Int) (L : List (List Pair)) (i : Nat) (h : i < L.length) : (mPS k L)[i]'(by rw [mPS_len]; exact h) = mP (k + 2 * (tT (L.take i) : Int)) L[i].length := by
  unfold mPS
  simp [List.getD_eq_getElem?_getD, h]
theorem pl_markPs' (i : Nat) (k : Int) (L : List (List Pair)) (hi : i < L.length) (hk : 0 ≤ k ∧ k ≤ 100000000000000) (hl : L[i].length ≤ 1048576) : p_laws_markPairS' i k L = some (k + 2 * L[i].length, L.set i (mP k L[i].length)) := by
  unfold p_laws_markPairS'
  refine iterK_rule (fun d (s : Int × Int × List (List Pair)) => ∃ (j : Nat) (P : List Pair), s.1 = k + 2 * j ∧ s.2.1 = j ∧ j + d = L[i].length ∧ P.length = L[i].length ∧ P.take j = mP k j ∧ s.2.2 = L.set i P) ?_ L[i].length _ (by unfold NN; omega)
    ⟨0, L[i], by simp, rfl, by omega, rfl, by simp [mP], by simp⟩
  rintro d ⟨v1, v2, v3⟩ ⟨j, P, g1, g2, g3, g4, g5, g6⟩ nx hnx
  dsimp only at g1 g2 g6 hnx ⊢
  subst g2 g6
  rw [getN_set hi]
  by_cases hj : j < L[i].length
  · have e2 : v1 + 1 + 1 = v1 + 2 := by omega
    have q1 : IntKind.i64.wrap (v1 + 1) = v1 + 1 := wrap_sm _ (by omega) (by omega)
    have q2 : IntKind.i64.wrap (v1 + 2) = v1 + 2 := wrap_sm _ (by omega) (by omega)
    have hv : j < P.length := by omega
    rw [if_pos (by omega), mT_ok v1 (by omega), callK_some, getK_lt hv]
    simp only [Int.toNat_natCast, q1, e2, q2, mT_ok (v1 + 1) (by omega), callK_some, List.set_set, getN_set hi, getK_set hv]
    rw [wrap_sm ((j : Int) + 1) (by omega) (by omega)]
    refine hnx (d - 1) _ (by omega) ⟨j + 1, _, by dsimp only; omega, by dsimp only; omega, by omega, by simpa using g4, ?_, rfl⟩
    rw [List.take_succ_eq_append_getElem (by simp; omega), List.take_set_of_le (by omega), g5, List.getElem_set_self, mP_succ, ← g1]
  · have hjl : j = L[i].length := by omega
    rw [if_neg (by omega)]
    have h1 : P = mP k L[i].length := by rw [← hjl, ← g5, hjl, ← g4, List.take_length]
    rw [h1, g1, hjl]
theorem pl_markPSS (k : Int) (L : List (List Pair)) (hk : 0 ≤ k ∧ k ≤ 1000000) (h : L.length ≤ 1048577) (h2 : ∀ l ∈ L, l.length ≤ 1048576) : p_laws_markPairSS k L = some (k + 2 * tT L, mPS k L) := by
  have hT := tT_le L h2
  unfold p_laws_markPairSS
  refine iterK_rule (fun d (s : Int × Int × List (List Pair)) => ∃ i : Nat, s.1 = k + 2 * tT (L.take i) ∧ s.2.1 = i ∧ i + d = L.length ∧ s.2.2 = (mPS k L).take i ++ L.drop i) ?_ L.length _ (by unfold NN; omega) ⟨0, by simp [tT], rfl, by omega, by simp⟩
  rintro d ⟨v1, v2, v3⟩ ⟨i, g1, g2, g3, g4⟩ nx hnx
  dsimp only at g1 g2 g4 hnx ⊢
  subst g2
  have ht := tT_take L i
  have hml := mPS_len k L
  have hv3 : v3.length = L.length := by rw [g4, List.length_append, List.length_take, List.length_drop]; omega
  by_cases hi : i < L.length
  · have hv : i < v3.length := by omega
    have hl : ((mPS k L).take i).length = i := by rw [List.length_take]; omega
    have hg : v3[i]'hv = L[i] := by
      have : v3[i]? = some L[i] := by
        rw [g4, List.getElem?_append_right (by omega), hl, Nat.sub_self, List.getElem?_drop, Nat.add_zero, List.getElem?_eq_getElem hi]
      rw [List.getElem?_eq_getElem hv] at this
      exact Option.some.inj this
    have h3 := tT_take1 L i hi
    have h4 := h2 _ (List.getElem_mem hi)
    rw [if_pos (by omega), getK_lt hv, Int.toNat_natCast, pl_markPs' i v1 v3 hv (by omega) (by rw [hg]; exact h4), callK_some, wrap_sm ((i : Int) + 1) (by omega) (by omega), hg]
    refine hnx (d - 1) _ (by omega) ⟨i + 1, by dsimp only; omega, by dsimp only; omega, by omega, ?_⟩
    dsimp only
    rw [g4, List.set_append_right _ _ (by omega), hl, Nat.sub_self, List.drop_eq_getElem_cons hi, List.set_cons_zero, List.take_succ_eq_append_getElem (by omega : i < (mPS k L).length), mPS_get k L i hi, ← g1]
    simp
  · have hil : i = L.length := by omega
    rw [if_neg (by omega)]
    rw [hil, List.take_length] at g1
    rw [hil, List.drop_length, List.append_nil, ← hml, List.take_length] at g4
    rw [g1, g4]
theorem pl_heldPs (k : Int) (n : Nat) (hk : 0 ≤ k ∧ k ≤ 100000000000000) (hn : n ≤ 1048576) : p_laws_heldPairS (mP k n) k = some (k + 2 * n) := by
  unfold p_laws_heldPairS
  rw [grd_pos (by rw [mP_len]; omega)]
  refine forK_rule (fun i (v : Int) => v = k + 2 * i) (fun i hi v hv nx hnx => ?_) (fun v hv => by rw [hv, mP_len]) _ (by simp)
  rw [mP_len] at hi
  have e2 : v + 1 + 1 = v + 2 := by omega
  have q1 : IntKind.i64.wrap (v + 1) = v + 1 := wrap_sm _ (by omega) (by omega)
  have q2 : IntKind.i64.wrap (v + 2) = v + 2 := wrap_sm _ (by omega) (by omega)
  rw [mP_get k n i hi, ← hv, mT_ok v (by omega), callK_some, if_pos (by simp), q1, mT_ok (v + 1) (by omega), callK_some, if_pos (by simp), e2, q2]
  exact hnx _ (by push_cast; omega)
theorem pl_heldPSS (k : Int) (L : List (List Pair)) (hk : 0 ≤ k ∧ k ≤ 1000000) (h : L.length ≤ 1048577) (h2 : ∀ l ∈ L, l.length ≤ 1048576) : p_laws_heldPairSS (mPS k L) k = some (k + 2 * tT L) := by
  have hT := tT_le L h2
  have hml := mPS_len k L
  unfold p_laws_heldPairSS
  rw [grd_pos (by omega)]
  refine forK_rule (fun i (v : Int) => v = k + 2 * tT (L.take i)) (fun i hi v hv nx hnx => ?_) (fun v hv => by rw [hv, hml, List.take_length]) _ (by simp [tT])
  rw [hml] at hi
  have ht := tT_take L i
  have h3 := tT_take1 L i hi
  rw [mPS_get k L i hi, ← hv, pl_heldPs v _ (by omega) (h2 _ (List.getElem_mem hi)), callK_some, if_neg (by omega)]
  exact hnx _ (by omega)
theorem pl_law (s : List Pair) (L : List (List Record)) (hs : okL okPair s) (hL : okL (okL okRecord) L) : p_laws_FnExactStatesAfter s L = some true := by
  unfold p_laws_FnExactStatesAfter
  obtain ⟨r, e, hr⟩ := pl_szPs s 1048576 hs (by omega)
  rw [e, callK_some]
  by_cases h0 : r < 0
  · rw [if_pos h0]
  have hr := hr.resolve_left h0
  obtain ⟨r2, e2, hr2⟩ := pl_szRSS L r hL (by omega)
  rw [if_neg h0, e2, callK_some]
  by_cases h1 : r2 < 0
  · rw [if_pos h1]
  have hr2 := hr2.resolve_left h1
  have hsz : s.length + L.length + tT L ≤ 1048576 := by omega
  obtain ⟨X, e3, e4, hX, hX2⟩ := pl_states s L hsz
  obtain ⟨m1, e5, hm1⟩ := pl_markPs 1 s (by omega) (by omega)
  obtain ⟨m2, e6, hm2⟩ := pl_markRSS m1.1 L (by omega) (by omega)
  rw [if_neg h1]
  simp only [pl_toPs s (by omega), pl_toRSS L (by omega), e3, e4, callK_some, pl_eqPSS X hX hX2, pl_eqPs s (by omega), pl_eqRSS L (by omega), if_true, e5, e6]
  rw [if_neg (by omega)]
  simp only [pl_markPSS 1 X (by omega) hX hX2, pl_heldPSS 1 X (by omega) hX hX2, callK_some, not_true_eq_false, if_false]
  rw [if_neg (by omega), if_neg (by omega)]
theorem f_law (s : List Pair) (L : List (List Record)) (hs : okL okPair s) (hL : okL (okL okRecord) L) : callL E 3 [.d (.arr (s.map rPair)), .d (.arr (L.map (rL rRecord)))] [] = some (BO true, []) := L_laws_FnExactStatesAfter s L (pl_law s L hs hL)

end Go.Proofs.Ytjnhclnnobejgaa.T03

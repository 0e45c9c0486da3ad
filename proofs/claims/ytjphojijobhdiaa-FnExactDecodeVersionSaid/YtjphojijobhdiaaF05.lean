/- FnExactDecodeVersion: what its functions come to, and the row; conditions: none. -/
-- noform spec_l25Src_tables
import Derived.Test.YtjphojijobhdiaaT05
import Derived.Test.YtjphojijobhdiaaEz
import Derived.Test.YtjphojijobhdiaaRows
import Derived.WalkKit
import Derived.ProofKit
import Derived.OpenShut
import Derived.ShutString
import Derived.ChangeOld
import Derived.Below
import Derived.SizedLaws
namespace Go.Proofs.Ytjphojijobhdiaa.T05
open Go.Proofs.YtjphojijobhdiaaE
set_option maxRecDepth 100000
set_option linter.unusedVariables false
set_option linter.unusedSimpArgs false

noncomputable def p_spec_l00In (a_0 : Int) (a_1 : Int) (a_2 : Int) : Option Bool :=
  if a_0 ≥ a_1 then
    some (decide (a_0 ≤ a_2))
  else
    some false

set_option maxHeartbeats 4000000 in
theorem L_spec_l00In (a_0 : Int) (a_1 : Int) (a_2 : Int) {r : Bool} (h : p_spec_l00In a_0 a_1 a_2 = some r) : callL E 217 [IN a_0, IN a_1, IN a_2] ([] : Fo) = some (BO r, ([] : Fo)) := by
  unfold p_spec_l00In at h
  refine callW (fu := Try.f217) rfl rfl rfl NN ?_
  intro lp cl hlp hcl
  conv => lhs; whnf
  cases hb1 : (decide (a_0 ≥ a_1))
  · replace h := ifF h (decF hb1); conv => lhs; whnf
    try (rw [hb1]; conv => lhs; whnf)
    try (rw [hb1]; conv => lhs; whnf)
    try (rw [hb1]; conv => lhs; whnf)
    obtain rfl := Option.some.inj h; show _ = _; kernel_rfl
  · replace h := ifT h (decT hb1); conv => lhs; whnf
    try (rw [hb1]; conv => lhs; whnf)
    try (rw [hb1]; conv => lhs; whnf)
    try (rw [hb1]; conv => lhs; whnf)
    obtain rfl := Option.some.inj h; show _ = _; kernel_rfl
theorem pl_l00In (n lo hi : Int) : p_spec_l00In n lo hi = some (inR n lo hi) := by
  unfold p_spec_l00In inR
  split
  · rename_i h; simp [h]
  · rename_i h; simp [h]


noncomputable def p_impl_within (a_0 : Int) (a_1 : Int) (a_2 : Int) : Option Bool :=
  if a_0 ≥ a_1 then
    some (decide (a_0 ≤ a_2))
  else
    some false

set_option maxHeartbeats 4000000 in
theorem L_impl_within (a_0 : Int) (a_1 : Int) (a_2 : Int) {r : Bool} (h : p_impl_within a_0 a_1 a_2 = some r) : callL E 151 [IN a_0, IN a_1, IN a_2] ([] : Fo) = some (BO r, ([] : Fo)) := by
  unfold p_impl_within at h
  refine callW (fu := Try.f151) rfl rfl rfl NN ?_
  intro lp cl hlp hcl
  conv => lhs; whnf
  cases hb1 : (decide (a_0 ≥ a_1))
  · replace h := ifF h (decF hb1); conv => lhs; whnf
    try (rw [hb1]; conv => lhs; whnf)
    try (rw [hb1]; conv => lhs; whnf)
    try (rw [hb1]; conv => lhs; whnf)
    obtain rfl := Option.some.inj h; show _ = _; kernel_rfl
  · replace h := ifT h (decT hb1); conv => lhs; whnf
    try (rw [hb1]; conv => lhs; whnf)
    try (rw [hb1]; conv => lhs; whnf)
    try (rw [hb1]; conv => lhs; whnf)
    obtain rfl := Option.some.inj h; show _ = _; kernel_rfl
theorem pl_within (n lo hi : Int) : p_impl_within n lo hi = some (inR n lo hi) := by
  unfold p_impl_within inR
  split
  · rename_i h; simp [h]
  · rename_i h; simp [h]



def cmpB (a b : ByteArray) : Int := Lib.compareBytes a.data.toList b.data.toList
theorem f_Compare (a b : ByteArray) : callL E 204 [ST a, ST b] [] = some (IN (cmpB a b), []) := callX rfl rfl

structure Sl25Src where
  S : ByteArray
  Bad : Bool
def rSl25Src (x : Sl25Src) : List D := [dS x.S, dB x.Bad]
theorem rSl25Src_len : ∀ x, (rSl25Src x).length = 2 := fun _ => rfl

noncomputable def p_spec_EncodeUvarint (a_0 : Int) : Option ByteArray :=
  if a_0 < 0 then
    some (⟨#[]⟩ : ByteArray)
  else
    iterK (fun ((v2, v3) : (Int × (List Int))) (nx4 : (Int × (List Int)) → Option _) =>
      if v2 > 127 then
        grd (appOk (v3.length + 1) 1 = true) <|
        nx4 ((Int.fdiv v2 (2 ^ (min (Int.toNat 7) IntKind.i64.bits))), (v3 ++ ([(IntKind.u8.wrap (orK .i64 (andK .i64 v2 127) 128))] : List Int)))
      else
        grd (appOk (v3.length + 1) 1 = true) <|
        some (bytesOf ((v3 ++ ([(IntKind.u8.wrap v2)] : List Int)).map rU))) NN (a_0, ([] : List Int))

set_option maxHeartbeats 4000000 in
theorem L_spec_EncodeUvarint (a_0 : Int) {r : ByteArray} (h : p_spec_EncodeUvarint a_0 = some r) : callL E 186 [IN a_0] ([] : Fo) = some (ST r, ([] : Fo)) := by
  unfold p_spec_EncodeUvarint at h
  refine callW (fu := Try.f186) rfl rfl rfl NN ?_
  intro lp cl hlp hcl
  conv => lhs; whnf
  cases hb1 : (decide (a_0 < 0))
  · replace h := ifF h (decF hb1); conv => lhs; whnf
    refine loop_iter hlp (fun ((v2, v3) : (Int × (List Int))) => ([IN v2, .dead, .dead, .sl 0] ++ List.replicate 20 .dead : List V)) (fun ((v2, v3) : (Int × (List Int))) => ([some (.arr 5 1 (v3.map rU))] : Fo)) (fun (r : ByteArray) => ((ST r : V), ([] : Fo))) ?_ (a_0, ([] : List Int)) _ (fun kk => by kernel_rfl) h
    clear h
    rintro next_nx4 nx4 hnx4 ⟨v2, v3⟩ r h
    try dsimp only at h
    conv => lhs; whnf
    cases hb5 : (decide (v2 > 127))
    · replace h := ifF h (decF hb5); conv => lhs; whnf
      obtain ⟨hg6, h⟩ := grd_inv h
      rw [app_eq hg6 ?h1 ?h2]
      case h1 => first | exact rfl | (simp only [List.length_map, List.length_cons, List.length_nil]; done) | (rw [List.length_map]; rfl)
      case h2 => exact rfl
      conv => lhs; whnf
      first | (rw [map_app_of (r := rU) (l := v3) (m := ([(IntKind.u8.wrap v2)] : List Int)) ?hh]; case hh => exact rfl) | skip
      try rw [byteRows_rU]
      conv => lhs; whnf
      obtain rfl := Option.some.inj h; show _ = _; kernel_rfl
    · replace h := ifT h (decT hb5); conv => lhs; whnf
      obtain ⟨hg7, h⟩ := grd_inv h
      rw [app_eq hg7 ?h1 ?h2]
      case h1 => first | exact rfl | (simp only [List.length_map, List.length_cons, List.length_nil]; done) | (rw [List.length_map]; rfl)
      case h2 => exact rfl
      conv => lhs; whnf
      first | (rw [map_app_of (r := rU) (l := v3) (m := ([(IntKind.u8.wrap (orK .i64 (andK .i64 v2 127) 128))] : List Int)) ?hh]; case hh => exact rfl) | skip
      exact hnx4 _ _ _ _ (fun kk => by kernel_rfl) h
  · replace h := ifT h (decT hb1); conv => lhs; whnf
    obtain rfl := Option.some.inj h; show _ = _; kernel_rfl

noncomputable def p_spec_DecodeUvarint (a_0 : ByteArray) : Option (Int × Int × Bool) :=
  grd ((ByteArray.size a_0 : Int) < 4611686018427387904) <|
  forI (ByteArray.size a_0 : Int) (fun (i9 : Nat) (v10 : Int) (nx11 : Int → Option _) =>
    if (i9 : Int) < 9 then
      getB a_0 (i9 : Int) fun c13 =>
      grd (0 ≤ (IntKind.u64.wrap (IntKind.i64.wrap (7 * (i9 : Int))))) <|
      if c13 < 128 then
        callK (p_spec_EncodeUvarint (orK .i64 v10 (IntKind.i64.wrap ((IntKind.i64.wrap (andK .u8 c13 127)) * 2 ^ (min (Int.toNat (IntKind.u64.wrap (IntKind.i64.wrap (7 * (i9 : Int))))) IntKind.i64.bits))))) fun y15 =>
        grd (0 ≤ 0 ∧ 0 ≤ (IntKind.i64.wrap ((i9 : Int) + 1)) ∧ (IntKind.i64.wrap ((i9 : Int) + 1)) ≤ (ByteArray.size a_0 : Int)) <|
        if (y15.toList == (ByteArray.extract a_0 (Int.toNat 0) (Int.toNat (IntKind.i64.wrap ((i9 : Int) + 1)))).toList) = true then
          some ((orK .i64 v10 (IntKind.i64.wrap ((IntKind.i64.wrap (andK .u8 c13 127)) * 2 ^ (min (Int.toNat (IntKind.u64.wrap (IntKind.i64.wrap (7 * (i9 : Int))))) IntKind.i64.bits)))), (IntKind.i64.wrap ((i9 : Int) + 1)), true)
        else
          some (0, 0, false)
      else
        nx11 (orK .i64 v10 (IntKind.i64.wrap ((IntKind.i64.wrap (andK .u8 c13 127)) * 2 ^ (min (Int.toNat (IntKind.u64.wrap (IntKind.i64.wrap (7 * (i9 : Int))))) IntKind.i64.bits))))
    else
      some (0, 0, false)) 0 (fun (v10 : Int) =>
    some (0, 0, false))

set_option maxHeartbeats 4000000 in
theorem L_spec_DecodeUvarint (a_0 : ByteArray) {r : (Int × Int × Bool)} (h : p_spec_DecodeUvarint a_0 = some r) : callL E 215 [ST a_0] ([] : Fo) = some (.tup [IN r.1, IN r.2.1, BO r.2.2], ([] : Fo)) := by
  unfold p_spec_DecodeUvarint at h
  refine callW (fu := Try.f215) rfl rfl rfl NN ?_
  intro lp cl hlp hcl
  conv => lhs; whnf
  obtain ⟨hl_i9, h⟩ := grd_inv h
  refine loop_forI hlp (n := (ByteArray.size a_0 : Int)) hl_i9 (fun (i9 : Nat) (v10 : Int) => ([ST a_0, .dead, .dead, .dead, .dead, IN v10, IN (i9 : Int)] ++ List.replicate 35 .dead : List V)) (fun (i9 : Nat) (v10 : Int) => ([] : Fo)) (fun (r : (Int × Int × Bool)) => ((.tup [IN r.1, IN r.2.1, BO r.2.2] : V), ([] : Fo))) ?_ ?_ 0 _ (fun kk => by kernel_rfl) h
  · clear h
    rintro next_nx11 nx11 i9 hi_i9 hnx11 v10 r h
    try dsimp only at h
    have hn_i9 : i9 < 4611686018427387904 := by omega
    have hd_i9 : (decide ((i9 : Int) < (ByteArray.size a_0 : Int))) = true := decide_eq_true (by omega)
    conv => lhs; whnf
    rw [hd_i9]
    conv => lhs; whnf
    try (rw [hd_i9]; conv => lhs; whnf)
    try (rw [hd_i9]; conv => lhs; whnf)
    cases hb12 : (decide ((i9 : Int) < 9))
    · replace h := ifF h (decF hb12); conv => lhs; whnf
      obtain rfl := Option.some.inj h; show _ = _; kernel_rfl
    · replace h := ifT h (decT hb12); conv => lhs; whnf
      obtain ⟨c13', hq_c13, hc_c13, h⟩ := getB_inv h
      try (rw [decide_eq_true hq_c13]; conv => lhs; whnf)
      rw [hc_c13]
      conv => lhs; whnf
      generalize he_c13 : (c13'.toNat : Int) = c13 at h ⊢
      conv => lhs; whnf
      obtain ⟨hg17, h⟩ := grd_inv h
      try (rw [shl_run _ _ _ _ _ hg17]; conv => lhs; whnf)
      conv => lhs; whnf
      try (rw [decide_eq_true hq_c13]; conv => lhs; whnf)
      rw [hc_c13]
      conv => lhs; whnf
      try rw [he_c13]
      conv => lhs; whnf
      cases hb14 : (decide (c13 < 128))
      · replace h := ifF h (decF hb14); conv => lhs; whnf
        rw [wrap_nat i9 (by have := hn_i9; omega)]
        exact hnx11 _ _ _ _ (fun kk => by kernel_rfl) h
      · replace h := ifT h (decT hb14); conv => lhs; whnf
        obtain ⟨y15, h_y15, h⟩ := callK_inv h
        rw [cl_eq hcl (L_spec_EncodeUvarint (orK .i64 v10 (IntKind.i64.wrap ((IntKind.i64.wrap (andK .u8 c13 127)) * 2 ^ (min (Int.toNat (IntKind.u64.wrap (IntKind.i64.wrap (7 * (i9 : Int))))) IntKind.i64.bits)))) h_y15)]
        rotate_left
        · show _ = _; kernel_rfl
        · show _ = _; kernel_rfl
        conv => lhs; whnf
        obtain ⟨hg18, h⟩ := grd_inv h
        try (rw [decide_eq_true hg18.1]; conv => lhs; whnf)
        try (rw [decide_eq_true hg18.2.1]; conv => lhs; whnf)
        try (rw [decide_eq_true hg18.2.2])
        conv => lhs; whnf
        cases hb16 : (y15.toList == (ByteArray.extract a_0 (Int.toNat 0) (Int.toNat (IntKind.i64.wrap ((i9 : Int) + 1)))).toList)
        · replace h := ifF h (booF hb16); conv => lhs; whnf
          obtain rfl := Option.some.inj h; show _ = _; kernel_rfl
        · replace h := ifT h hb16; conv => lhs; whnf
          obtain rfl := Option.some.inj h; show _ = _; kernel_rfl
  · clear h
    rintro next_nx11 v10 r h
    try dsimp only at h
    have hd_i9 : (decide (((Int.toNat (ByteArray.size a_0 : Int)) : Int) < (ByteArray.size a_0 : Int))) = false := decide_eq_false (by omega)
    conv => lhs; whnf
    rw [hd_i9]
    conv => lhs; whnf
    try (rw [hd_i9]; conv => lhs; whnf)
    try (rw [hd_i9]; conv => lhs; whnf)
    obtain rfl := Option.some.inj h; show _ = _; kernel_rfl

noncomputable def p_spec_l25Src_num (a_0 : Sl25Src) : Option (Int × Sl25Src) :=
  callK (p_spec_DecodeUvarint a_0.S) fun y1 =>
  if y1.2.2 = true then
    grd (0 ≤ y1.2.1 ∧ y1.2.1 ≤ (ByteArray.size a_0.S : Int) ∧ (ByteArray.size a_0.S : Int) ≤ (ByteArray.size a_0.S : Int)) <|
    some (y1.1, (⟨(ByteArray.extract a_0.S (Int.toNat y1.2.1) (Int.toNat (ByteArray.size a_0.S : Int))), a_0.Bad⟩ : Sl25Src))
  else
    some (0, (⟨a_0.S, true⟩ : Sl25Src))

set_option maxHeartbeats 4000000 in
theorem L_spec_l25Src_num (a_0 : Sl25Src) {r : (Int × Sl25Src)} (h : p_spec_l25Src_num a_0 = some r) : callL E 118 [.bp 0 0] ([some (.box [ST a_0.S, BO a_0.Bad])] : Fo) = some (IN r.1, ([some (.box [ST r.2.S, BO r.2.Bad])] : Fo)) := by
  unfold p_spec_l25Src_num at h
  refine callW (fu := Try.f118) rfl rfl rfl NN ?_
  intro lp cl hlp hcl
  conv => lhs; whnf
  obtain ⟨y1, h_y1, h⟩ := callK_inv h
  rw [cl_eq hcl (L_spec_DecodeUvarint a_0.S h_y1)]
  rotate_left
  · show _ = _; kernel_rfl
  · show _ = _; kernel_rfl
  conv => lhs; whnf
  cases hb2 : y1.2.2
  · replace h := ifF h (booF hb2); conv => lhs; whnf
    obtain rfl := Option.some.inj h; show _ = _; kernel_rfl
  · replace h := ifT h hb2; conv => lhs; whnf
    obtain ⟨hg3, h⟩ := grd_inv h
    try (rw [decide_eq_true hg3.1]; conv => lhs; whnf)
    try (rw [decide_eq_true hg3.2.1]; conv => lhs; whnf)
    try (rw [decide_eq_true hg3.2.2])
    conv => lhs; whnf
    obtain rfl := Option.some.inj h; show _ = _; kernel_rfl

noncomputable def p_spec_DecodeString (a_0 : ByteArray) : Option (ByteArray × Int × Bool) :=
  callK (p_spec_DecodeUvarint a_0) fun y1 =>
  if y1.2.2 = true then
    if y1.1 > (IntKind.i64.wrap ((ByteArray.size a_0 : Int) - y1.2.1)) then
      some ((⟨#[]⟩ : ByteArray), 0, false)
    else
      grd (0 ≤ y1.2.1 ∧ y1.2.1 ≤ (IntKind.i64.wrap (y1.2.1 + y1.1)) ∧ (IntKind.i64.wrap (y1.2.1 + y1.1)) ≤ (ByteArray.size a_0 : Int)) <|
      some ((ByteArray.extract a_0 (Int.toNat y1.2.1) (Int.toNat (IntKind.i64.wrap (y1.2.1 + y1.1)))), (IntKind.i64.wrap (y1.2.1 + y1.1)), true)
  else
    some ((⟨#[]⟩ : ByteArray), 0, false)

set_option maxHeartbeats 4000000 in
theorem L_spec_DecodeString (a_0 : ByteArray) {r : (ByteArray × Int × Bool)} (h : p_spec_DecodeString a_0 = some r) : callL E 276 [ST a_0] ([] : Fo) = some (.tup [ST r.1, IN r.2.1, BO r.2.2], ([] : Fo)) := by
  unfold p_spec_DecodeString at h
  refine callW (fu := Try.f276) rfl rfl rfl NN ?_
  intro lp cl hlp hcl
  conv => lhs; whnf
  obtain ⟨y1, h_y1, h⟩ := callK_inv h
  rw [cl_eq hcl (L_spec_DecodeUvarint a_0 h_y1)]
  rotate_left
  · show _ = _; kernel_rfl
  · show _ = _; kernel_rfl
  conv => lhs; whnf
  cases hb2 : y1.2.2
  · replace h := ifF h (booF hb2); conv => lhs; whnf
    try (rw [hb2]; conv => lhs; whnf)
    try (rw [hb2]; conv => lhs; whnf)
    try (rw [hb2]; conv => lhs; whnf)
    try (rw [hb2]; conv => lhs; whnf)
    try (rw [hb2]; conv => lhs; whnf)
    try (rw [hb2]; conv => lhs; whnf)
    obtain rfl := Option.some.inj h; show _ = _; kernel_rfl
  · replace h := ifT h hb2; conv => lhs; whnf
    try (rw [hb2]; conv => lhs; whnf)
    try (rw [hb2]; conv => lhs; whnf)
    try (rw [hb2]; conv => lhs; whnf)
    try (rw [hb2]; conv => lhs; whnf)
    try (rw [hb2]; conv => lhs; whnf)
    try (rw [hb2]; conv => lhs; whnf)
    cases hb3 : (decide (y1.1 > (IntKind.i64.wrap ((ByteArray.size a_0 : Int) - y1.2.1))))
    · replace h := ifF h (decF hb3); conv => lhs; whnf
      obtain ⟨hg4, h⟩ := grd_inv h
      try (rw [decide_eq_true hg4.1]; conv => lhs; whnf)
      try (rw [decide_eq_true hg4.2.1]; conv => lhs; whnf)
      try (rw [decide_eq_true hg4.2.2])
      conv => lhs; whnf
      obtain rfl := Option.some.inj h; show _ = _; kernel_rfl
    · replace h := ifT h (decT hb3); conv => lhs; whnf
      obtain rfl := Option.some.inj h; show _ = _; kernel_rfl

noncomputable def p_spec_l25Src_text (a_0 : Sl25Src) : Option (ByteArray × Sl25Src) :=
  callK (p_spec_DecodeString a_0.S) fun y1 =>
  if y1.2.2 = true then
    grd (0 ≤ y1.2.1 ∧ y1.2.1 ≤ (ByteArray.size a_0.S : Int) ∧ (ByteArray.size a_0.S : Int) ≤ (ByteArray.size a_0.S : Int)) <|
    some (y1.1, (⟨(ByteArray.extract a_0.S (Int.toNat y1.2.1) (Int.toNat (ByteArray.size a_0.S : Int))), a_0.Bad⟩ : Sl25Src))
  else
    some ((⟨#[]⟩ : ByteArray), (⟨a_0.S, true⟩ : Sl25Src))

set_option maxHeartbeats 4000000 in
theorem L_spec_l25Src_text (a_0 : Sl25Src) {r : (ByteArray × Sl25Src)} (h : p_spec_l25Src_text a_0 = some r) : callL E 216 [.bp 0 0] ([some (.box [ST a_0.S, BO a_0.Bad])] : Fo) = some (ST r.1, ([some (.box [ST r.2.S, BO r.2.Bad])] : Fo)) := by
  unfold p_spec_l25Src_text at h
  refine callW (fu := Try.f216) rfl rfl rfl NN ?_
  intro lp cl hlp hcl
  conv => lhs; whnf
  obtain ⟨y1, h_y1, h⟩ := callK_inv h
  rw [cl_eq hcl (L_spec_DecodeString a_0.S h_y1)]
  rotate_left
  · show _ = _; kernel_rfl
  · show _ = _; kernel_rfl
  conv => lhs; whnf
  cases hb2 : y1.2.2
  · replace h := ifF h (booF hb2); conv => lhs; whnf
    obtain rfl := Option.some.inj h; show _ = _; kernel_rfl
  · replace h := ifT h hb2; conv => lhs; whnf
    obtain ⟨hg3, h⟩ := grd_inv h
    try (rw [decide_eq_true hg3.1]; conv => lhs; whnf)
    try (rw [decide_eq_true hg3.2.1]; conv => lhs; whnf)
    try (rw [decide_eq_true hg3.2.2])
    conv => lhs; whnf
    obtain rfl := Option.some.inj h; show _ = _; kernel_rfl

noncomputable def p_spec_l25Src_tables (a_0 : Sl25Src) : Option ((List TableRef) × Sl25Src) :=
  callK (p_spec_l25Src_num a_0) fun y1 =>
  iterK (fun ((v2, v3, v4) : (Int × Sl25Src × (List TableRef))) (nx5 : (Int × Sl25Src × (List TableRef)) → Option _) =>
    if v2 < y1.1 then
      if v2 ≤ 16 then
        if v3.Bad = true then
          some (v4, (⟨v3.S, true⟩ : Sl25Src))
        else
          callK (p_spec_l25Src_num (⟨v3.S, false⟩ : Sl25Src)) fun y9 =>
          callK (p_spec_l25Src_num y9.2) fun y10 =>
          callK (p_spec_l25Src_num y10.2) fun y11 =>
          callK (p_spec_l25Src_num y11.2) fun y12 =>
          callK (p_spec_l25Src_num y12.2) fun y13 =>
          callK (p_spec_l25Src_text y13.2) fun y14 =>
          callK (p_spec_l25Src_text y14.2) fun y15 =>
          callK (p_spec_l25Src_num y15.2) fun y16 =>
          callK (p_spec_l25Src_num y16.2) fun y17 =>
          callK (p_spec_l25Src_num y17.2) fun y18 =>
          grd (appOk (v4.length + 1) 96 = true) <|
          nx5 ((IntKind.i64.wrap (v2 + 1)), y18.2, (v4 ++ ([(⟨y9.1, y10.1, y11.1, y12.1, y13.1, y14.1, y15.1, y16.1, y17.1, y18.1⟩ : TableRef)] : List TableRef)))
      else
        some (v4, v3)
    else
      some (v4, v3)) NN (0, y1.2, ([] : List TableRef))

set_option maxHeartbeats 4000000 in
theorem L_spec_l25Src_tables (a_0 : Sl25Src) {r : ((List TableRef) × Sl25Src)} (h : p_spec_l25Src_tables a_0 = some r) : callL E 119 [.bp 0 0] ([some (.box [ST a_0.S, BO a_0.Bad])] : Fo) = some (.d (.arr (r.1.map rTableRef)), ([some (.box [ST r.2.S, BO r.2.Bad])] : Fo)) := by
  unfold p_spec_l25Src_tables at h
  refine callW (fu := Try.f119) rfl rfl rfl NN ?_
  intro lp cl hlp hcl
  conv => lhs; whnf
  obtain ⟨y1, h_y1, h⟩ := callK_inv h
  rw [cl_eq hcl (L_spec_l25Src_num a_0 h_y1)]
  rotate_left
  · show _ = _; kernel_rfl
  · show _ = _; kernel_rfl
  conv => lhs; whnf
  refine loop_iter hlp (fun ((v2, v3, v4) : (Int × Sl25Src × (List TableRef))) => ([.bp 0 0, .dead, .dead, .sl 1, IN y1.1, IN v2] ++ List.replicate 55 .dead : List V)) (fun ((v2, v3, v4) : (Int × Sl25Src × (List TableRef))) => ([some (.box [ST v3.S, BO v3.Bad]), some (.arr 231 10 (v4.map rTableRef))] : Fo)) (fun (r : ((List TableRef) × Sl25Src)) => ((.d (.arr (r.1.map rTableRef)) : V), ([some (.box [ST r.2.S, BO r.2.Bad])] : Fo))) ?_ (0, y1.2, ([] : List TableRef)) _ (fun kk => by kernel_rfl) h
  clear h
  rintro next_nx5 nx5 hnx5 ⟨v2, v3, v4⟩ r h
  try dsimp only at h
  conv => lhs; whnf
  cases hb6 : (decide (v2 < y1.1))
  · replace h := ifF h (decF hb6); conv => lhs; whnf
    try (rw [hb6]; conv => lhs; whnf)
    try (rw [hb6]; conv => lhs; whnf)
    obtain rfl := Option.some.inj h; show _ = _; kernel_rfl
  · replace h := ifT h (decT hb6); conv => lhs; whnf
    try (rw [hb6]; conv => lhs; whnf)
    try (rw [hb6]; conv => lhs; whnf)
    cases hb7 : (decide (v2 ≤ 16))
    · replace h := ifF h (decF hb7); conv => lhs; whnf
      try (rw [hb7]; conv => lhs; whnf)
      try (rw [hb7]; conv => lhs; whnf)
      try (rw [hb7]; conv => lhs; whnf)
      try (rw [hb7]; conv => lhs; whnf)
      try (rw [hb7]; conv => lhs; whnf)
      obtain rfl := Option.some.inj h; show _ = _; kernel_rfl
    · replace h := ifT h (decT hb7); conv => lhs; whnf
      try (rw [hb7]; conv => lhs; whnf)
      try (rw [hb7]; conv => lhs; whnf)
      try (rw [hb7]; conv => lhs; whnf)
      try (rw [hb7]; conv => lhs; whnf)
      try (rw [hb7]; conv => lhs; whnf)
      cases hb8 : v3.Bad
      · replace h := ifF h (booF hb8); conv => lhs; whnf
        obtain ⟨y9, h_y9, h⟩ := callK_inv h
        rw [cl_eq hcl (L_spec_l25Src_num (⟨v3.S, false⟩ : Sl25Src) h_y9)]
        rotate_left
        · show _ = _; kernel_rfl
        · show _ = _; kernel_rfl
        conv => lhs; whnf
        obtain ⟨y10, h_y10, h⟩ := callK_inv h
        rw [cl_eq hcl (L_spec_l25Src_num y9.2 h_y10)]
        rotate_left
        · show _ = _; kernel_rfl
        · show _ = _; kernel_rfl
        conv => lhs; whnf
        obtain ⟨y11, h_y11, h⟩ := callK_inv h
        rw [cl_eq hcl (L_spec_l25Src_num y10.2 h_y11)]
        rotate_left
        · show _ = _; kernel_rfl
        · show _ = _; kernel_rfl
        conv => lhs; whnf
        obtain ⟨y12, h_y12, h⟩ := callK_inv h
        rw [cl_eq hcl (L_spec_l25Src_num y11.2 h_y12)]
        rotate_left
        · show _ = _; kernel_rfl
        · show _ = _; kernel_rfl
        conv => lhs; whnf
        obtain ⟨y13, h_y13, h⟩ := callK_inv h
        rw [cl_eq hcl (L_spec_l25Src_num y12.2 h_y13)]
        rotate_left
        · show _ = _; kernel_rfl
        · show _ = _; kernel_rfl
        conv => lhs; whnf
        obtain ⟨y14, h_y14, h⟩ := callK_inv h
        rw [cl_eq hcl (L_spec_l25Src_text y13.2 h_y14)]
        rotate_left
        · show _ = _; kernel_rfl
        · show _ = _; kernel_rfl
        conv => lhs; whnf
        obtain ⟨y15, h_y15, h⟩ := callK_inv h
        rw [cl_eq hcl (L_spec_l25Src_text y14.2 h_y15)]
        rotate_left
        · show _ = _; kernel_rfl
        · show _ = _; kernel_rfl
        conv => lhs; whnf
        obtain ⟨y16, h_y16, h⟩ := callK_inv h
        rw [cl_eq hcl (L_spec_l25Src_num y15.2 h_y16)]
        rotate_left
        · show _ = _; kernel_rfl
        · show _ = _; kernel_rfl
        conv => lhs; whnf
        obtain ⟨y17, h_y17, h⟩ := callK_inv h
        rw [cl_eq hcl (L_spec_l25Src_num y16.2 h_y17)]
        rotate_left
        · show _ = _; kernel_rfl
        · show _ = _; kernel_rfl
        conv => lhs; whnf
        obtain ⟨y18, h_y18, h⟩ := callK_inv h
        rw [cl_eq hcl (L_spec_l25Src_num y17.2 h_y18)]
        rotate_left
        · show _ = _; kernel_rfl
        · show _ = _; kernel_rfl
        conv => lhs; whnf
        obtain ⟨hg19, h⟩ := grd_inv h
        rw [app_eq hg19 ?h1 ?h2]
        case h1 => first | exact rfl | (simp only [List.length_map, List.length_cons, List.length_nil]; done) | (rw [List.length_map]; rfl)
        case h2 => exact rfl
        conv => lhs; whnf
        first | (rw [map_app_of (r := rTableRef) (l := v4) (m := ([(⟨y9.1, y10.1, y11.1, y12.1, y13.1, y14.1, y15.1, y16.1, y17.1, y18.1⟩ : TableRef)] : List TableRef)) ?hh]; case hh => exact rfl) | skip
        exact hnx5 _ _ _ _ (fun kk => by kernel_rfl) h
      · replace h := ifT h hb8; conv => lhs; whnf
        obtain rfl := Option.some.inj h; show _ = _; kernel_rfl

noncomputable def p_spec_l25Table (a_0 : List TableRef) (a_1 : Nat) : Option Bool :=
  getN a_0 a_1 fun x1 =>
  if (inR x1.Id 1 1000000) = true then
    if (inR x1.Level 0 2) = true then
      if (inR x1.Zone 0 11) = true then
        if (inR x1.Page 0 1000) = true then
          if (inR x1.Pages 1 100) = true then
            if (ByteArray.size x1.Low : Int) > 9 then
              some false
            else
              if (ByteArray.size x1.High : Int) > 9 then
                some false
              else
                if (Op.bytesLess x1.Low.toList x1.High.toList) = true then
                  if x1.First > 0 then
                    if x1.First ≤ x1.Last then
                      if x1.Last ≤ 1000000 then
                        some (inR x1.Records 1 60)
                      else
                        some false
                    else
                      some false
                  else
                    some false
                else
                  some false
          else
            some false
        else
          some false
      else
        some false
    else
      some false
  else
    some false

set_option maxHeartbeats 4000000 in
theorem L_spec_l25Table (a_0 : List TableRef) (a_1 : Nat) {r : Bool} (h : p_spec_l25Table a_0 a_1 = some r) : callL E 218 [.rp (a_0.map rTableRef) a_1 0] ([] : Fo) = some (BO r, ([] : Fo)) := by
  unfold p_spec_l25Table at h
  refine callW (fu := Try.f218) rfl rfl rfl NN ?_
  intro lp cl hlp hcl
  conv => lhs; whnf
  obtain ⟨x1, hx_x1', h⟩ := getN_inv h
  have hx_x1 := get_of (r := rTableRef) hx_x1'
  rw [hx_x1]
  conv => lhs; whnf
  rw [cl_eq hcl (L_spec_l00In x1.Id 1 1000000 (pl_l00In x1.Id 1 1000000))]
  rotate_left
  · show _ = _; kernel_rfl
  · show _ = _; kernel_rfl
  conv => lhs; whnf
  cases hb2 : (inR x1.Id 1 1000000)
  · replace h := ifF h (booF hb2); conv => lhs; whnf
    try (rw [hb2]; conv => lhs; whnf)
    try (rw [hb2]; conv => lhs; whnf)
    try (rw [hb2]; conv => lhs; whnf)
    try (rw [hb2]; conv => lhs; whnf)
    try (rw [hb2]; conv => lhs; whnf)
    try (rw [hb2]; conv => lhs; whnf)
    obtain rfl := Option.some.inj h; show _ = _; kernel_rfl
  · replace h := ifT h hb2; conv => lhs; whnf
    try (rw [hb2]; conv => lhs; whnf)
    try (rw [hb2]; conv => lhs; whnf)
    try (rw [hb2]; conv => lhs; whnf)
    rw [hx_x1]
    conv => lhs; whnf
    try (rw [hb2]; conv => lhs; whnf)
    rw [cl_eq hcl (L_spec_l00In x1.Level 0 2 (pl_l00In x1.Level 0 2))]
    rotate_left
    · show _ = _; kernel_rfl
    · show _ = _; kernel_rfl
    conv => lhs; whnf
    try (rw [hb2]; conv => lhs; whnf)
    try (rw [hb2]; conv => lhs; whnf)
    cases hb3 : (inR x1.Level 0 2)
    · replace h := ifF h (booF hb3); conv => lhs; whnf
      try (rw [hb3]; conv => lhs; whnf)
      try (rw [hb3]; conv => lhs; whnf)
      try (rw [hb3]; conv => lhs; whnf)
      try (rw [hb3]; conv => lhs; whnf)
      try (rw [hb3]; conv => lhs; whnf)
      try (rw [hb3]; conv => lhs; whnf)
      obtain rfl := Option.some.inj h; show _ = _; kernel_rfl
    · replace h := ifT h hb3; conv => lhs; whnf
      try (rw [hb3]; conv => lhs; whnf)
      try (rw [hb3]; conv => lhs; whnf)
      try (rw [hb3]; conv => lhs; whnf)
      rw [hx_x1]
      conv => lhs; whnf
      try (rw [hb3]; conv => lhs; whnf)
      rw [cl_eq hcl (L_spec_l00In x1.Zone 0 11 (pl_l00In x1.Zone 0 11))]
      rotate_left
      · show _ = _; kernel_rfl
      · show _ = _; kernel_rfl
      conv => lhs; whnf
      try (rw [hb3]; conv => lhs; whnf)
      try (rw [hb3]; conv => lhs; whnf)
      cases hb4 : (inR x1.Zone 0 11)
      · replace h := ifF h (booF hb4); conv => lhs; whnf
        try (rw [hb4]; conv => lhs; whnf)
        try (rw [hb4]; conv => lhs; whnf)
        try (rw [hb4]; conv => lhs; whnf)
        try (rw [hb4]; conv => lhs; whnf)
        try (rw [hb4]; conv => lhs; whnf)
        try (rw [hb4]; conv => lhs; whnf)
        obtain rfl := Option.some.inj h; show _ = _; kernel_rfl
      · replace h := ifT h hb4; conv => lhs; whnf
        try (rw [hb4]; conv => lhs; whnf)
        try (rw [hb4]; conv => lhs; whnf)
        try (rw [hb4]; conv => lhs; whnf)
        rw [hx_x1]
        conv => lhs; whnf
        try (rw [hb4]; conv => lhs; whnf)
        rw [cl_eq hcl (L_spec_l00In x1.Page 0 1000 (pl_l00In x1.Page 0 1000))]
        rotate_left
        · show _ = _; kernel_rfl
        · show _ = _; kernel_rfl
        conv => lhs; whnf
        try (rw [hb4]; conv => lhs; whnf)
        try (rw [hb4]; conv => lhs; whnf)
        cases hb5 : (inR x1.Page 0 1000)
        · replace h := ifF h (booF hb5); conv => lhs; whnf
          try (rw [hb5]; conv => lhs; whnf)
          try (rw [hb5]; conv => lhs; whnf)
          try (rw [hb5]; conv => lhs; whnf)
          try (rw [hb5]; conv => lhs; whnf)
          try (rw [hb5]; conv => lhs; whnf)
          try (rw [hb5]; conv => lhs; whnf)
          obtain rfl := Option.some.inj h; show _ = _; kernel_rfl
        · replace h := ifT h hb5; conv => lhs; whnf
          try (rw [hb5]; conv => lhs; whnf)
          try (rw [hb5]; conv => lhs; whnf)
          try (rw [hb5]; conv => lhs; whnf)
          rw [hx_x1]
          conv => lhs; whnf
          try (rw [hb5]; conv => lhs; whnf)
          rw [cl_eq hcl (L_spec_l00In x1.Pages 1 100 (pl_l00In x1.Pages 1 100))]
          rotate_left
          · show _ = _; kernel_rfl
          · show _ = _; kernel_rfl
          conv => lhs; whnf
          try (rw [hb5]; conv => lhs; whnf)
          try (rw [hb5]; conv => lhs; whnf)
          cases hb6 : (inR x1.Pages 1 100)
          · replace h := ifF h (booF hb6); conv => lhs; whnf
            obtain rfl := Option.some.inj h; show _ = _; kernel_rfl
          · replace h := ifT h hb6; conv => lhs; whnf
            rw [hx_x1]
            conv => lhs; whnf
            cases hb7 : (decide ((ByteArray.size x1.Low : Int) > 9))
            · replace h := ifF h (decF hb7); conv => lhs; whnf
              try (rw [hb7]; conv => lhs; whnf)
              try (rw [hb7]; conv => lhs; whnf)
              try (rw [hb7]; conv => lhs; whnf)
              rw [hx_x1]
              conv => lhs; whnf
              try (rw [hb7]; conv => lhs; whnf)
              try (rw [hb7]; conv => lhs; whnf)
              try (rw [hb7]; conv => lhs; whnf)
              cases hb8 : (decide ((ByteArray.size x1.High : Int) > 9))
              · replace h := ifF h (decF hb8); conv => lhs; whnf
                try (rw [hb8]; conv => lhs; whnf)
                try (rw [hb8]; conv => lhs; whnf)
                try (rw [hb8]; conv => lhs; whnf)
                rw [hx_x1]
                conv => lhs; whnf
                try (rw [hb8]; conv => lhs; whnf)
                try (rw [hb8]; conv => lhs; whnf)
                try (rw [hb8]; conv => lhs; whnf)
                try (rw [hb8]; conv => lhs; whnf)
                rw [hx_x1]
                conv => lhs; whnf
                try (rw [hb8]; conv => lhs; whnf)
                try (rw [hb8]; conv => lhs; whnf)
                cases hb9 : (Op.bytesLess x1.Low.toList x1.High.toList)
                · replace h := ifF h (booF hb9); conv => lhs; whnf
                  obtain rfl := Option.some.inj h; show _ = _; kernel_rfl
                · replace h := ifT h hb9; conv => lhs; whnf
                  rw [hx_x1]
                  conv => lhs; whnf
                  cases hb10 : (decide (x1.First > 0))
                  · replace h := ifF h (decF hb10); conv => lhs; whnf
                    try (rw [hb10]; conv => lhs; whnf)
                    try (rw [hb10]; conv => lhs; whnf)
                    try (rw [hb10]; conv => lhs; whnf)
                    try (rw [hb10]; conv => lhs; whnf)
                    try (rw [hb10]; conv => lhs; whnf)
                    try (rw [hb10]; conv => lhs; whnf)
                    try (rw [hb10]; conv => lhs; whnf)
                    try (rw [hb10]; conv => lhs; whnf)
                    try (rw [hb10]; conv => lhs; whnf)
                    obtain rfl := Option.some.inj h; show _ = _; kernel_rfl
                  · replace h := ifT h (decT hb10); conv => lhs; whnf
                    try (rw [hb10]; conv => lhs; whnf)
                    try (rw [hb10]; conv => lhs; whnf)
                    try (rw [hb10]; conv => lhs; whnf)
                    rw [hx_x1]
                    conv => lhs; whnf
                    try (rw [hb10]; conv => lhs; whnf)
                    try (rw [hb10]; conv => lhs; whnf)
                    try (rw [hb10]; conv => lhs; whnf)
                    try (rw [hb10]; conv => lhs; whnf)
                    rw [hx_x1]
                    conv => lhs; whnf
                    try (rw [hb10]; conv => lhs; whnf)
                    try (rw [hb10]; conv => lhs; whnf)
                    cases hb11 : (decide (x1.First ≤ x1.Last))
                    · replace h := ifF h (decF hb11); conv => lhs; whnf
                      try (rw [hb11]; conv => lhs; whnf)
                      try (rw [hb11]; conv => lhs; whnf)
                      try (rw [hb11]; conv => lhs; whnf)
                      try (rw [hb11]; conv => lhs; whnf)
                      try (rw [hb11]; conv => lhs; whnf)
                      obtain rfl := Option.some.inj h; show _ = _; kernel_rfl
                    · replace h := ifT h (decT hb11); conv => lhs; whnf
                      try (rw [hb11]; conv => lhs; whnf)
                      try (rw [hb11]; conv => lhs; whnf)
                      try (rw [hb11]; conv => lhs; whnf)
                      rw [hx_x1]
                      conv => lhs; whnf
                      try (rw [hb11]; conv => lhs; whnf)
                      try (rw [hb11]; conv => lhs; whnf)
                      cases hb12 : (decide (x1.Last ≤ 1000000))
                      · replace h := ifF h (decF hb12); conv => lhs; whnf
                        try (rw [hb12]; conv => lhs; whnf)
                        try (rw [hb12]; conv => lhs; whnf)
                        try (rw [hb12]; conv => lhs; whnf)
                        try (rw [hb12]; conv => lhs; whnf)
                        try (rw [hb12]; conv => lhs; whnf)
                        obtain rfl := Option.some.inj h; show _ = _; kernel_rfl
                      · replace h := ifT h (decT hb12); conv => lhs; whnf
                        try (rw [hb12]; conv => lhs; whnf)
                        try (rw [hb12]; conv => lhs; whnf)
                        try (rw [hb12]; conv => lhs; whnf)
                        rw [hx_x1]
                        conv => lhs; whnf
                        try (rw [hb12]; conv => lhs; whnf)
                        rw [cl_eq hcl (L_spec_l00In x1.Records 1 60 (pl_l00In x1.Records 1 60))]
                        rotate_left
                        · show _ = _; kernel_rfl
                        · show _ = _; kernel_rfl
                        conv => lhs; whnf
                        try (rw [hb12]; conv => lhs; whnf)
                        obtain rfl := Option.some.inj h; show _ = _; kernel_rfl
              · replace h := ifT h (decT hb8); conv => lhs; whnf
                try (rw [hb8]; conv => lhs; whnf)
                try (rw [hb8]; conv => lhs; whnf)
                try (rw [hb8]; conv => lhs; whnf)
                try (rw [hb8]; conv => lhs; whnf)
                try (rw [hb8]; conv => lhs; whnf)
                try (rw [hb8]; conv => lhs; whnf)
                try (rw [hb8]; conv => lhs; whnf)
                try (rw [hb8]; conv => lhs; whnf)
                try (rw [hb8]; conv => lhs; whnf)
                obtain rfl := Option.some.inj h; show _ = _; kernel_rfl
            · replace h := ifT h (decT hb7); conv => lhs; whnf
              try (rw [hb7]; conv => lhs; whnf)
              try (rw [hb7]; conv => lhs; whnf)
              try (rw [hb7]; conv => lhs; whnf)
              try (rw [hb7]; conv => lhs; whnf)
              try (rw [hb7]; conv => lhs; whnf)
              try (rw [hb7]; conv => lhs; whnf)
              obtain rfl := Option.some.inj h; show _ = _; kernel_rfl

noncomputable def p_spec_l25Before (a_0 : List TableRef) (a_1 : Nat) (a_2 : List TableRef) (a_3 : Nat) : Option Bool :=
  getN a_0 a_1 fun x1 =>
  getN a_2 a_3 fun x2 =>
  if ¬ x1.Level = x2.Level then
    some (decide (x1.Level < x2.Level))
  else
    if x1.Level = 0 then
      some (decide (x1.Id > x2.Id))
    else
      if (Op.bytesLess x1.Low.toList x2.Low.toList) = true then
        some ((Op.bytesLess x1.High.toList x2.Low.toList) || (x1.High.toList == x2.Low.toList))
      else
        some false

set_option maxHeartbeats 4000000 in
theorem L_spec_l25Before (a_0 : List TableRef) (a_1 : Nat) (a_2 : List TableRef) (a_3 : Nat) {r : Bool} (h : p_spec_l25Before a_0 a_1 a_2 a_3 = some r) : callL E 226 [.rp (a_0.map rTableRef) a_1 0, .rp (a_2.map rTableRef) a_3 0] ([] : Fo) = some (BO r, ([] : Fo)) := by
  unfold p_spec_l25Before at h
  refine callW (fu := Try.f226) rfl rfl rfl NN ?_
  intro lp cl hlp hcl
  conv => lhs; whnf
  obtain ⟨x1, hx_x1', h⟩ := getN_inv h
  have hx_x1 := get_of (r := rTableRef) hx_x1'
  rw [hx_x1]
  conv => lhs; whnf
  obtain ⟨x2, hx_x2', h⟩ := getN_inv h
  have hx_x2 := get_of (r := rTableRef) hx_x2'
  rw [hx_x2]
  conv => lhs; whnf
  cases hb3 : (x1.Level != x2.Level)
  · replace h := ifF h ((fun h => not_not_intro (bneF h)) hb3); conv => lhs; whnf
    rw [hx_x1]
    conv => lhs; whnf
    cases hb4 : (x1.Level == 0)
    · replace h := ifF h (beqF hb4); conv => lhs; whnf
      rw [hx_x1]
      conv => lhs; whnf
      rw [hx_x2]
      conv => lhs; whnf
      cases hb5 : (Op.bytesLess x1.Low.toList x2.Low.toList)
      · replace h := ifF h (booF hb5); conv => lhs; whnf
        try (rw [hb5]; conv => lhs; whnf)
        try (rw [hb5]; conv => lhs; whnf)
        try (rw [hb5]; conv => lhs; whnf)
        try (rw [hb5]; conv => lhs; whnf)
        try (rw [hb5]; conv => lhs; whnf)
        try (rw [hb5]; conv => lhs; whnf)
        try (rw [hb5]; conv => lhs; whnf)
        try (rw [hb5]; conv => lhs; whnf)
        try (rw [hb5]; conv => lhs; whnf)
        obtain rfl := Option.some.inj h; show _ = _; kernel_rfl
      · replace h := ifT h hb5; conv => lhs; whnf
        try (rw [hb5]; conv => lhs; whnf)
        try (rw [hb5]; conv => lhs; whnf)
        try (rw [hb5]; conv => lhs; whnf)
        rw [hx_x1]
        conv => lhs; whnf
        try (rw [hb5]; conv => lhs; whnf)
        try (rw [hb5]; conv => lhs; whnf)
        try (rw [hb5]; conv => lhs; whnf)
        try (rw [hb5]; conv => lhs; whnf)
        rw [hx_x2]
        conv => lhs; whnf
        try (rw [hb5]; conv => lhs; whnf)
        try (rw [hb5]; conv => lhs; whnf)
        obtain rfl := Option.some.inj h; show _ = _; kernel_rfl
    · replace h := ifT h (beqT hb4); conv => lhs; whnf
      rw [hx_x1]
      conv => lhs; whnf
      rw [hx_x2]
      conv => lhs; whnf
      obtain rfl := Option.some.inj h; show _ = _; kernel_rfl
  · replace h := ifT h (bneT hb3); conv => lhs; whnf
    rw [hx_x1]
    conv => lhs; whnf
    rw [hx_x2]
    conv => lhs; whnf
    obtain rfl := Option.some.inj h; show _ = _; kernel_rfl

noncomputable def p_spec_l25Ok (a_0 : Version) : Option Bool :=
  if (inR a_0.NextId 1 1000000) = true then
    if (inR a_0.LogZone 0 11) = true then
      if (inR a_0.LogSeq 0 1000000) = true then
        if (a_0.Tables.length : Int) > 16 then
          some false
        else
          grd (a_0.Tables.length < 4611686018427387904) <|
          forK a_0.Tables (fun (i32 : Nat) x34 (_ : Unit) (nx33 : Unit → Option _) =>
            callK (p_spec_l25Table a_0.Tables (Int.toNat (i32 : Int))) fun y35 =>
            if y35 = true then
              if x34.Id ≥ a_0.NextId then
                some false
              else
                if x34.Last > a_0.LogSeq then
                  some false
                else
                  if (i32 : Int) > 0 then
                    getK a_0.Tables (IntKind.i64.wrap ((i32 : Int) - 1)) fun x40 =>
                    callK (p_spec_l25Before a_0.Tables (Int.toNat (IntKind.i64.wrap ((i32 : Int) - 1))) a_0.Tables (Int.toNat (i32 : Int))) fun y41 =>
                    if y41 = true then
                      grd ((i32 : Int) < 4611686018427387904) <|
                      forI (i32 : Int) (fun (i47 : Nat) (_ : Unit) (nx48 : Unit → Option _) =>
                        getK a_0.Tables (i47 : Int) fun x49 =>
                        if x49.Id = x34.Id then
                          some false
                        else
                          nx48 ()) () (fun (_ : Unit) =>
                        nx33 ())
                    else
                      some false
                  else
                    grd ((i32 : Int) < 4611686018427387904) <|
                    forI (i32 : Int) (fun (i55 : Nat) (_ : Unit) (nx56 : Unit → Option _) =>
                      getK a_0.Tables (i55 : Int) fun x57 =>
                      if x57.Id = x34.Id then
                        some false
                      else
                        nx56 ()) () (fun (_ : Unit) =>
                      nx33 ())
            else
              some false) () (fun (_ : Unit) =>
            some true)
      else
        some false
    else
      some false
  else
    some false

set_option maxHeartbeats 4000000 in
theorem L_spec_l25Ok (a_0 : Version) {r : Bool} (h : p_spec_l25Ok a_0 = some r) : callL E 134 [.bp 0 0] ([some (.box [IN a_0.NextId, IN a_0.LogZone, IN a_0.LogSeq, .d (.arr (a_0.Tables.map rTableRef))])] : Fo) = some (BO r, ([some (.box [IN a_0.NextId, IN a_0.LogZone, IN a_0.LogSeq, .d (.arr (a_0.Tables.map rTableRef))])] : Fo)) := by
  unfold p_spec_l25Ok at h
  refine callW (fu := Try.f134) rfl rfl rfl NN ?_
  intro lp cl hlp hcl
  conv => lhs; whnf
  rw [cl_eq hcl (L_spec_l00In a_0.NextId 1 1000000 (pl_l00In a_0.NextId 1 1000000))]
  rotate_left
  · show _ = _; kernel_rfl
  · show _ = _; kernel_rfl
  conv => lhs; whnf
  cases hb1 : (inR a_0.NextId 1 1000000)
  · replace h := ifF h (booF hb1); conv => lhs; whnf
    try (rw [hb1]; conv => lhs; whnf)
    try (rw [hb1]; conv => lhs; whnf)
    try (rw [hb1]; conv => lhs; whnf)
    try (rw [hb1]; conv => lhs; whnf)
    try (rw [hb1]; conv => lhs; whnf)
    try (rw [hb1]; conv => lhs; whnf)
    obtain rfl := Option.some.inj h; show _ = _; kernel_rfl
  · replace h := ifT h hb1; conv => lhs; whnf
    try (rw [hb1]; conv => lhs; whnf)
    try (rw [hb1]; conv => lhs; whnf)
    try (rw [hb1]; conv => lhs; whnf)
    try (rw [hb1]; conv => lhs; whnf)
    rw [cl_eq hcl (L_spec_l00In a_0.LogZone 0 11 (pl_l00In a_0.LogZone 0 11))]
    rotate_left
    · show _ = _; kernel_rfl
    · show _ = _; kernel_rfl
    conv => lhs; whnf
    try (rw [hb1]; conv => lhs; whnf)
    try (rw [hb1]; conv => lhs; whnf)
    cases hb2 : (inR a_0.LogZone 0 11)
    · replace h := ifF h (booF hb2); conv => lhs; whnf
      try (rw [hb2]; conv => lhs; whnf)
      try (rw [hb2]; conv => lhs; whnf)
      try (rw [hb2]; conv => lhs; whnf)
      try (rw [hb2]; conv => lhs; whnf)
      try (rw [hb2]; conv => lhs; whnf)
      try (rw [hb2]; conv => lhs; whnf)
      obtain rfl := Option.some.inj h; show _ = _; kernel_rfl
    · replace h := ifT h hb2; conv => lhs; whnf
      try (rw [hb2]; conv => lhs; whnf)
      try (rw [hb2]; conv => lhs; whnf)
      try (rw [hb2]; conv => lhs; whnf)
      try (rw [hb2]; conv => lhs; whnf)
      rw [cl_eq hcl (L_spec_l00In a_0.LogSeq 0 1000000 (pl_l00In a_0.LogSeq 0 1000000))]
      rotate_left
      · show _ = _; kernel_rfl
      · show _ = _; kernel_rfl
      conv => lhs; whnf
      try (rw [hb2]; conv => lhs; whnf)
      try (rw [hb2]; conv => lhs; whnf)
      cases hb3 : (inR a_0.LogSeq 0 1000000)
      · replace h := ifF h (booF hb3); conv => lhs; whnf
        try (rw [hb3]; conv => lhs; whnf)
        try (rw [hb3]; conv => lhs; whnf)
        try (rw [hb3]; conv => lhs; whnf)
        try (rw [hb3]; conv => lhs; whnf)
        try (rw [hb3]; conv => lhs; whnf)
        try (rw [hb3]; conv => lhs; whnf)
        obtain rfl := Option.some.inj h; show _ = _; kernel_rfl
      · replace h := ifT h hb3; conv => lhs; whnf
        try (rw [hb3]; conv => lhs; whnf)
        try (rw [hb3]; conv => lhs; whnf)
        try (rw [hb3]; conv => lhs; whnf)
        try (rw [hb3]; conv => lhs; whnf)
        try rw [len_of (l := a_0.Tables) (r := rTableRef)]
        try (rw [hb3]; conv => lhs; whnf)
        try (rw [hb3]; conv => lhs; whnf)
        cases hb4 : (decide ((a_0.Tables.length : Int) > 16))
        · replace h := ifF h (decF hb4); conv => lhs; whnf
          obtain ⟨hl_i32, h⟩ := grd_inv h
          refine loop_for hlp (l := a_0.Tables) hl_i32 (fun (i32 : Nat) (_ : Unit) => ([.bp 0 0, .dead, .dead, IN (i32 : Int)] ++ List.replicate 106 .dead : List V)) (fun (i32 : Nat) (_ : Unit) => ([some (.box [IN a_0.NextId, IN a_0.LogZone, IN a_0.LogSeq, .d (.arr (a_0.Tables.map rTableRef))])] : Fo)) (fun (r : Bool) => ((BO r : V), ([some (.box [IN a_0.NextId, IN a_0.LogZone, IN a_0.LogSeq, .d (.arr (a_0.Tables.map rTableRef))])] : Fo))) ?_ ?_ () _ (fun kk => by kernel_rfl) h
          · clear h
            rintro next_nx33 nx33 i32 hi_i32 hnx33 ⟨⟩ r h
            try dsimp only at h
            have hn_i32 : i32 < 4611686018427387904 := by omega
            have hx_x34 := get_map rTableRef a_0.Tables i32 hi_i32
            generalize a_0.Tables[i32] = x34 at h hx_x34
            have hd_i32 : (decide ((i32 : Int) < (a_0.Tables.length : Int))) = true := decide_eq_true (by omega)
            conv => lhs; whnf
            try rw [len_of (l := a_0.Tables) (r := rTableRef)]
            rw [hd_i32]
            conv => lhs; whnf
            try (rw [decide_eq_true hq_x34]; conv => lhs; whnf)
            rw [hx_x34]
            conv => lhs; whnf
            obtain ⟨y35, h_y35, h⟩ := callK_inv h
            rw [cl_eq hcl (L_spec_l25Table a_0.Tables (Int.toNat (i32 : Int)) h_y35)]
            rotate_left
            · show _ = _; kernel_rfl
            · show _ = _; kernel_rfl
            conv => lhs; whnf
            cases hb36 : y35
            · replace h := ifF h (booF hb36); conv => lhs; whnf
              try (rw [hb36]; conv => lhs; whnf)
              try (rw [hb36]; conv => lhs; whnf)
              try (rw [hb36]; conv => lhs; whnf)
              try (rw [hb36]; conv => lhs; whnf)
              try (rw [hb36]; conv => lhs; whnf)
              try (rw [hb36]; conv => lhs; whnf)
              try (rw [hb36]; conv => lhs; whnf)
              try (rw [hb36]; conv => lhs; whnf)
              try (rw [hb36]; conv => lhs; whnf)
              obtain rfl := Option.some.inj h; show _ = _; kernel_rfl
            · replace h := ifT h hb36; conv => lhs; whnf
              try (rw [hb36]; conv => lhs; whnf)
              try (rw [hb36]; conv => lhs; whnf)
              try (rw [hb36]; conv => lhs; whnf)
              rw [hx_x34]
              conv => lhs; whnf
              try (rw [hb36]; conv => lhs; whnf)
              try (rw [hb36]; conv => lhs; whnf)
              try (rw [hb36]; conv => lhs; whnf)
              try (rw [hb36]; conv => lhs; whnf)
              try (rw [hb36]; conv => lhs; whnf)
              try (rw [hb36]; conv => lhs; whnf)
              cases hb37 : (decide (x34.Id ≥ a_0.NextId))
              · replace h := ifF h (decF hb37); conv => lhs; whnf
                try (rw [hb37]; conv => lhs; whnf)
                try (rw [hb37]; conv => lhs; whnf)
                try (rw [hb37]; conv => lhs; whnf)
                rw [hx_x34]
                conv => lhs; whnf
                try (rw [hb37]; conv => lhs; whnf)
                try (rw [hb37]; conv => lhs; whnf)
                try (rw [hb37]; conv => lhs; whnf)
                try (rw [hb37]; conv => lhs; whnf)
                try (rw [hb37]; conv => lhs; whnf)
                try (rw [hb37]; conv => lhs; whnf)
                cases hb38 : (decide (x34.Last > a_0.LogSeq))
                · replace h := ifF h (decF hb38); conv => lhs; whnf
                  try (rw [hb38]; conv => lhs; whnf)
                  try (rw [hb38]; conv => lhs; whnf)
                  cases hb39 : (decide ((i32 : Int) > 0))
                  · replace h := ifF h (decF hb39); conv => lhs; whnf
                    try (rw [hb39]; conv => lhs; whnf)
                    try (rw [hb39]; conv => lhs; whnf)
                    try (rw [hb39]; conv => lhs; whnf)
                    try (rw [hb39]; conv => lhs; whnf)
                    try (rw [hb39]; conv => lhs; whnf)
                    try (rw [hb39]; conv => lhs; whnf)
                    try (rw [hb39]; conv => lhs; whnf)
                    try (rw [hb39]; conv => lhs; whnf)
                    try (rw [hb39]; conv => lhs; whnf)
                    try (rw [hb38]; conv => lhs; whnf)
                    try (rw [hb39]; conv => lhs; whnf)
                    try (rw [hb38]; conv => lhs; whnf)
                    obtain ⟨hl_i55, h⟩ := grd_inv h
                    refine loop_forI hlp (n := (i32 : Int)) hl_i55 (fun (i55 : Nat) (_ : Unit) => ([.bp 0 0, .dead, .dead, IN (i32 : Int), .rp (a_0.Tables.map rTableRef) (Int.toNat (i32 : Int)) 0, IN (i55 : Int)] ++ List.replicate 104 .dead : List V)) (fun (i55 : Nat) (_ : Unit) => ([some (.box [IN a_0.NextId, IN a_0.LogZone, IN a_0.LogSeq, .d (.arr (a_0.Tables.map rTableRef))])] : Fo)) (fun (r : Bool) => ((BO r : V), ([some (.box [IN a_0.NextId, IN a_0.LogZone, IN a_0.LogSeq, .d (.arr (a_0.Tables.map rTableRef))])] : Fo))) ?_ ?_ () _ (fun kk => by kernel_rfl) h
                    · clear h
                      rintro next_nx56 nx56 i55 hi_i55 hnx56 ⟨⟩ r h
                      try dsimp only at h
                      have hn_i55 : i55 < 4611686018427387904 := by omega
                      have hd_i55 : (decide ((i55 : Int) < (i32 : Int))) = true := decide_eq_true (by omega)
                      conv => lhs; whnf
                      rw [hd_i55]
                      conv => lhs; whnf
                      obtain ⟨x57, hq_x57, hx_x57', h⟩ := getK_inv h
                      have hx_x57 := get_of (r := rTableRef) hx_x57'
                      try (rw [decide_eq_true hq_x57]; conv => lhs; whnf)
                      rw [hx_x57]
                      conv => lhs; whnf
                      rw [hx_x57]
                      conv => lhs; whnf
                      rw [hx_x34]
                      conv => lhs; whnf
                      cases hb58 : (x57.Id == x34.Id)
                      · replace h := ifF h (beqF hb58); conv => lhs; whnf
                        rw [wrap_nat i55 (by have := hn_i55; omega)]
                        exact hnx56 _ _ _ _ (fun kk => by kernel_rfl) h
                      · replace h := ifT h (beqT hb58); conv => lhs; whnf
                        obtain rfl := Option.some.inj h; show _ = _; kernel_rfl
                    · clear h
                      rintro next_nx56 ⟨⟩ r h
                      try dsimp only at h
                      have hd_i55 : (decide (((Int.toNat (i32 : Int)) : Int) < (i32 : Int))) = false := decide_eq_false (by omega)
                      conv => lhs; whnf
                      rw [hd_i55]
                      conv => lhs; whnf
                      rw [wrap_nat i32 (by have := hn_i32; omega)]
                      exact hnx33 _ _ _ _ (fun kk => by kernel_rfl) h
                  · replace h := ifT h (decT hb39); conv => lhs; whnf
                    try (rw [hb39]; conv => lhs; whnf)
                    try (rw [hb39]; conv => lhs; whnf)
                    try (rw [hb39]; conv => lhs; whnf)
                    try (rw [hb39]; conv => lhs; whnf)
                    try (rw [hb39]; conv => lhs; whnf)
                    try (rw [hb39]; conv => lhs; whnf)
                    obtain ⟨x40, hq_x40, hx_x40', h⟩ := getK_inv h
                    have hx_x40 := get_of (r := rTableRef) hx_x40'
                    try (rw [decide_eq_true hq_x40]; conv => lhs; whnf)
                    rw [hx_x40]
                    conv => lhs; whnf
                    try (rw [hb39]; conv => lhs; whnf)
                    try (rw [hb39]; conv => lhs; whnf)
                    obtain ⟨y41, h_y41, h⟩ := callK_inv h
                    rw [cl_eq hcl (L_spec_l25Before a_0.Tables (Int.toNat (IntKind.i64.wrap ((i32 : Int) - 1))) a_0.Tables (Int.toNat (i32 : Int)) h_y41)]
                    rotate_left
                    · show _ = _; kernel_rfl
                    · show _ = _; kernel_rfl
                    conv => lhs; whnf
                    try (rw [hb39]; conv => lhs; whnf)
                    try (rw [hb38]; conv => lhs; whnf)
                    try (rw [hb39]; conv => lhs; whnf)
                    try (rw [hb38]; conv => lhs; whnf)
                    cases hb42 : y41
                    · replace h := ifF h (booF hb42); conv => lhs; whnf
                      obtain rfl := Option.some.inj h; show _ = _; kernel_rfl
                    · replace h := ifT h hb42; conv => lhs; whnf
                      obtain ⟨hl_i47, h⟩ := grd_inv h
                      refine loop_forI hlp (n := (i32 : Int)) hl_i47 (fun (i47 : Nat) (_ : Unit) => ([.bp 0 0, .dead, .dead, IN (i32 : Int), .rp (a_0.Tables.map rTableRef) (Int.toNat (i32 : Int)) 0, IN (i47 : Int)] ++ List.replicate 104 .dead : List V)) (fun (i47 : Nat) (_ : Unit) => ([some (.box [IN a_0.NextId, IN a_0.LogZone, IN a_0.LogSeq, .d (.arr (a_0.Tables.map rTableRef))])] : Fo)) (fun (r : Bool) => ((BO r : V), ([some (.box [IN a_0.NextId, IN a_0.LogZone, IN a_0.LogSeq, .d (.arr (a_0.Tables.map rTableRef))])] : Fo))) ?_ ?_ () _ (fun kk => by kernel_rfl) h
                      · clear h
                        rintro next_nx48 nx48 i47 hi_i47 hnx48 ⟨⟩ r h
                        try dsimp only at h
                        have hn_i47 : i47 < 4611686018427387904 := by omega
                        have hd_i47 : (decide ((i47 : Int) < (i32 : Int))) = true := decide_eq_true (by omega)
                        conv => lhs; whnf
                        rw [hd_i47]
                        conv => lhs; whnf
                        obtain ⟨x49, hq_x49, hx_x49', h⟩ := getK_inv h
                        have hx_x49 := get_of (r := rTableRef) hx_x49'
                        try (rw [decide_eq_true hq_x49]; conv => lhs; whnf)
                        rw [hx_x49]
                        conv => lhs; whnf
                        rw [hx_x49]
                        conv => lhs; whnf
                        rw [hx_x34]
                        conv => lhs; whnf
                        cases hb50 : (x49.Id == x34.Id)
                        · replace h := ifF h (beqF hb50); conv => lhs; whnf
                          rw [wrap_nat i47 (by have := hn_i47; omega)]
                          exact hnx48 _ _ _ _ (fun kk => by kernel_rfl) h
                        · replace h := ifT h (beqT hb50); conv => lhs; whnf
                          obtain rfl := Option.some.inj h; show _ = _; kernel_rfl
                      · clear h
                        rintro next_nx48 ⟨⟩ r h
                        try dsimp only at h
                        have hd_i47 : (decide (((Int.toNat (i32 : Int)) : Int) < (i32 : Int))) = false := decide_eq_false (by omega)
                        conv => lhs; whnf
                        rw [hd_i47]
                        conv => lhs; whnf
                        rw [wrap_nat i32 (by have := hn_i32; omega)]
                        exact hnx33 _ _ _ _ (fun kk => by kernel_rfl) h
                · replace h := ifT h (decT hb38); conv => lhs; whnf
                  try (rw [hb38]; conv => lhs; whnf)
                  try (rw [hb38]; conv => lhs; whnf)
                  try (rw [hb38]; conv => lhs; whnf)
                  try (rw [hb38]; conv => lhs; whnf)
                  obtain rfl := Option.some.inj h; show _ = _; kernel_rfl
              · replace h := ifT h (decT hb37); conv => lhs; whnf
                try (rw [hb37]; conv => lhs; whnf)
                try (rw [hb37]; conv => lhs; whnf)
                try (rw [hb37]; conv => lhs; whnf)
                try (rw [hb37]; conv => lhs; whnf)
                try (rw [hb37]; conv => lhs; whnf)
                try (rw [hb37]; conv => lhs; whnf)
                try (rw [hb37]; conv => lhs; whnf)
                try (rw [hb37]; conv => lhs; whnf)
                try (rw [hb37]; conv => lhs; whnf)
                obtain rfl := Option.some.inj h; show _ = _; kernel_rfl
          · clear h
            rintro next_nx33 ⟨⟩ r h
            try dsimp only at h
            have hd_i32 : (decide ((a_0.Tables.length : Int) < (a_0.Tables.length : Int))) = false := decide_eq_false (by omega)
            conv => lhs; whnf
            try rw [len_of (l := a_0.Tables) (r := rTableRef)]
            rw [hd_i32]
            conv => lhs; whnf
            obtain rfl := Option.some.inj h; show _ = _; kernel_rfl
        · replace h := ifT h (decT hb4); conv => lhs; whnf
          obtain rfl := Option.some.inj h; show _ = _; kernel_rfl

noncomputable def p_spec_EncodeString (a_0 : ByteArray) : Option ByteArray :=
  callK (p_spec_EncodeUvarint (ByteArray.size a_0 : Int)) fun y1 =>
  grd (((ByteArray.size y1 + ByteArray.size a_0 : Nat) : Int) ≤ 9223372036854775807) <|
  some (y1 ++ a_0)

set_option maxHeartbeats 4000000 in
theorem L_spec_EncodeString (a_0 : ByteArray) {r : ByteArray} (h : p_spec_EncodeString a_0 = some r) : callL E 307 [ST a_0] ([] : Fo) = some (ST r, ([] : Fo)) := by
  unfold p_spec_EncodeString at h
  refine callW (fu := Try.f307) rfl rfl rfl NN ?_
  intro lp cl hlp hcl
  conv => lhs; whnf
  obtain ⟨y1, h_y1, h⟩ := callK_inv h
  rw [cl_eq hcl (L_spec_EncodeUvarint (ByteArray.size a_0 : Int) h_y1)]
  rotate_left
  · show _ = _; kernel_rfl
  · show _ = _; kernel_rfl
  conv => lhs; whnf
  obtain ⟨hg2, h⟩ := grd_inv h
  rw [cat_run _ _ _ hg2]
  conv => lhs; whnf
  obtain rfl := Option.some.inj h; show _ = _; kernel_rfl

noncomputable def p_spec_l25PutTable (a_0 : List TableRef) (a_1 : Nat) : Option ByteArray :=
  getN a_0 a_1 fun x1 =>
  callK (p_spec_EncodeUvarint x1.Id) fun y2 =>
  callK (p_spec_EncodeUvarint x1.Level) fun y3 =>
  grd (((ByteArray.size y2 + ByteArray.size y3 : Nat) : Int) ≤ 9223372036854775807) <|
  callK (p_spec_EncodeUvarint x1.Zone) fun y4 =>
  grd (((ByteArray.size (y2 ++ y3) + ByteArray.size y4 : Nat) : Int) ≤ 9223372036854775807) <|
  callK (p_spec_EncodeUvarint x1.Page) fun y5 =>
  grd (((ByteArray.size ((y2 ++ y3) ++ y4) + ByteArray.size y5 : Nat) : Int) ≤ 9223372036854775807) <|
  callK (p_spec_EncodeUvarint x1.Pages) fun y6 =>
  grd (((ByteArray.size (((y2 ++ y3) ++ y4) ++ y5) + ByteArray.size y6 : Nat) : Int) ≤ 9223372036854775807) <|
  callK (p_spec_EncodeString x1.Low) fun y7 =>
  grd (((ByteArray.size ((((y2 ++ y3) ++ y4) ++ y5) ++ y6) + ByteArray.size y7 : Nat) : Int) ≤ 9223372036854775807) <|
  callK (p_spec_EncodeString x1.High) fun y8 =>
  grd (((ByteArray.size (((((y2 ++ y3) ++ y4) ++ y5) ++ y6) ++ y7) + ByteArray.size y8 : Nat) : Int) ≤ 9223372036854775807) <|
  callK (p_spec_EncodeUvarint x1.First) fun y9 =>
  grd (((ByteArray.size ((((((y2 ++ y3) ++ y4) ++ y5) ++ y6) ++ y7) ++ y8) + ByteArray.size y9 : Nat) : Int) ≤ 9223372036854775807) <|
  callK (p_spec_EncodeUvarint x1.Last) fun y10 =>
  grd (((ByteArray.size (((((((y2 ++ y3) ++ y4) ++ y5) ++ y6) ++ y7) ++ y8) ++ y9) + ByteArray.size y10 : Nat) : Int) ≤ 9223372036854775807) <|
  callK (p_spec_EncodeUvarint x1.Records) fun y11 =>
  grd (((ByteArray.size ((((((((y2 ++ y3) ++ y4) ++ y5) ++ y6) ++ y7) ++ y8) ++ y9) ++ y10) + ByteArray.size y11 : Nat) : Int) ≤ 9223372036854775807) <|
  some (((((((((y2 ++ y3) ++ y4) ++ y5) ++ y6) ++ y7) ++ y8) ++ y9) ++ y10) ++ y11)

set_option maxHeartbeats 4000000 in
theorem L_spec_l25PutTable (a_0 : List TableRef) (a_1 : Nat) {r : ByteArray} (h : p_spec_l25PutTable a_0 a_1 = some r) : callL E 277 [.rp (a_0.map rTableRef) a_1 0] ([] : Fo) = some (ST r, ([] : Fo)) := by
  unfold p_spec_l25PutTable at h
  refine callW (fu := Try.f277) rfl rfl rfl NN ?_
  intro lp cl hlp hcl
  conv => lhs; whnf
  obtain ⟨x1, hx_x1', h⟩ := getN_inv h
  have hx_x1 := get_of (r := rTableRef) hx_x1'
  rw [hx_x1]
  conv => lhs; whnf
  obtain ⟨y2, h_y2, h⟩ := callK_inv h
  rw [cl_eq hcl (L_spec_EncodeUvarint x1.Id h_y2)]
  rotate_left
  · show _ = _; kernel_rfl
  · show _ = _; kernel_rfl
  conv => lhs; whnf
  rw [hx_x1]
  conv => lhs; whnf
  obtain ⟨y3, h_y3, h⟩ := callK_inv h
  rw [cl_eq hcl (L_spec_EncodeUvarint x1.Level h_y3)]
  rotate_left
  · show _ = _; kernel_rfl
  · show _ = _; kernel_rfl
  conv => lhs; whnf
  obtain ⟨hg12, h⟩ := grd_inv h
  rw [cat_run _ _ _ hg12]
  conv => lhs; whnf
  rw [hx_x1]
  conv => lhs; whnf
  obtain ⟨y4, h_y4, h⟩ := callK_inv h
  rw [cl_eq hcl (L_spec_EncodeUvarint x1.Zone h_y4)]
  rotate_left
  · show _ = _; kernel_rfl
  · show _ = _; kernel_rfl
  conv => lhs; whnf
  obtain ⟨hg13, h⟩ := grd_inv h
  rw [cat_run _ _ _ hg13]
  conv => lhs; whnf
  rw [hx_x1]
  conv => lhs; whnf
  obtain ⟨y5, h_y5, h⟩ := callK_inv h
  rw [cl_eq hcl (L_spec_EncodeUvarint x1.Page h_y5)]
  rotate_left
  · show _ = _; kernel_rfl
  · show _ = _; kernel_rfl
  conv => lhs; whnf
  obtain ⟨hg14, h⟩ := grd_inv h
  rw [cat_run _ _ _ hg14]
  conv => lhs; whnf
  rw [hx_x1]
  conv => lhs; whnf
  obtain ⟨y6, h_y6, h⟩ := callK_inv h
  rw [cl_eq hcl (L_spec_EncodeUvarint x1.Pages h_y6)]
  rotate_left
  · show _ = _; kernel_rfl
  · show _ = _; kernel_rfl
  conv => lhs; whnf
  obtain ⟨hg15, h⟩ := grd_inv h
  rw [cat_run _ _ _ hg15]
  conv => lhs; whnf
  rw [hx_x1]
  conv => lhs; whnf
  obtain ⟨y7, h_y7, h⟩ := callK_inv h
  rw [cl_eq hcl (L_spec_EncodeString x1.Low h_y7)]
  rotate_left
  · show _ = _; kernel_rfl
  · show _ = _; kernel_rfl
  conv => lhs; whnf
  obtain ⟨hg16, h⟩ := grd_inv h
  rw [cat_run _ _ _ hg16]
  conv => lhs; whnf
  rw [hx_x1]
  conv => lhs; whnf
  obtain ⟨y8, h_y8, h⟩ := callK_inv h
  rw [cl_eq hcl (L_spec_EncodeString x1.High h_y8)]
  rotate_left
  · show _ = _; kernel_rfl
  · show _ = _; kernel_rfl
  conv => lhs; whnf
  obtain ⟨hg17, h⟩ := grd_inv h
  rw [cat_run _ _ _ hg17]
  conv => lhs; whnf
  rw [hx_x1]
  conv => lhs; whnf
  obtain ⟨y9, h_y9, h⟩ := callK_inv h
  rw [cl_eq hcl (L_spec_EncodeUvarint x1.First h_y9)]
  rotate_left
  · show _ = _; kernel_rfl
  · show _ = _; kernel_rfl
  conv => lhs; whnf
  obtain ⟨hg18, h⟩ := grd_inv h
  rw [cat_run _ _ _ hg18]
  conv => lhs; whnf
  rw [hx_x1]
  conv => lhs; whnf
  obtain ⟨y10, h_y10, h⟩ := callK_inv h
  rw [cl_eq hcl (L_spec_EncodeUvarint x1.Last h_y10)]
  rotate_left
  · show _ = _; kernel_rfl
  · show _ = _; kernel_rfl
  conv => lhs; whnf
  obtain ⟨hg19, h⟩ := grd_inv h
  rw [cat_run _ _ _ hg19]
  conv => lhs; whnf
  rw [hx_x1]
  conv => lhs; whnf
  obtain ⟨y11, h_y11, h⟩ := callK_inv h
  rw [cl_eq hcl (L_spec_EncodeUvarint x1.Records h_y11)]
  rotate_left
  · show _ = _; kernel_rfl
  · show _ = _; kernel_rfl
  conv => lhs; whnf
  obtain ⟨hg20, h⟩ := grd_inv h
  rw [cat_run _ _ _ hg20]
  conv => lhs; whnf
  obtain rfl := Option.some.inj h; show _ = _; kernel_rfl

noncomputable def p_spec_l25PutTables (a_0 : List TableRef) : Option ByteArray :=
  callK (p_spec_EncodeUvarint (a_0.length : Int)) fun y1 =>
  grd (a_0.length < 4611686018427387904) <|
  forK a_0 (fun (i7 : Nat) x10 (v8 : ByteArray) (nx9 : ByteArray → Option _) =>
    callK (p_spec_l25PutTable a_0 (Int.toNat (i7 : Int))) fun y11 =>
    grd (((ByteArray.size v8 + ByteArray.size y11 : Nat) : Int) ≤ 9223372036854775807) <|
    nx9 (v8 ++ y11)) y1 (fun (v8 : ByteArray) =>
    some v8)

set_option maxHeartbeats 4000000 in
theorem L_spec_l25PutTables (a_0 : List TableRef) {r : ByteArray} (h : p_spec_l25PutTables a_0 = some r) : callL E 219 [.d (.arr (a_0.map rTableRef))] ([] : Fo) = some (ST r, ([] : Fo)) := by
  unfold p_spec_l25PutTables at h
  refine callW (fu := Try.f219) rfl rfl rfl NN ?_
  intro lp cl hlp hcl
  conv => lhs; whnf
  try rw [len_of (l := a_0) (r := rTableRef)]
  obtain ⟨y1, h_y1, h⟩ := callK_inv h
  rw [cl_eq hcl (L_spec_EncodeUvarint (a_0.length : Int) h_y1)]
  rotate_left
  · show _ = _; kernel_rfl
  · show _ = _; kernel_rfl
  conv => lhs; whnf
  obtain ⟨hl_i7, h⟩ := grd_inv h
  refine loop_for hlp (l := a_0) hl_i7 (fun (i7 : Nat) (v8 : ByteArray) => ([.d (.arr (a_0.map rTableRef)), .dead, .dead, ST v8, IN (i7 : Int)] ++ List.replicate 16 .dead : List V)) (fun (i7 : Nat) (v8 : ByteArray) => ([] : Fo)) (fun (r : ByteArray) => ((ST r : V), ([] : Fo))) ?_ ?_ y1 _ (fun kk => by kernel_rfl) h
  · clear h
    rintro next_nx9 nx9 i7 hi_i7 hnx9 v8 r h
    try dsimp only at h
    have hn_i7 : i7 < 4611686018427387904 := by omega
    have hx_x10 := get_map rTableRef a_0 i7 hi_i7
    generalize a_0[i7] = x10 at h hx_x10
    have hd_i7 : (decide ((i7 : Int) < (a_0.length : Int))) = true := decide_eq_true (by omega)
    conv => lhs; whnf
    try rw [len_of (l := a_0) (r := rTableRef)]
    rw [hd_i7]
    conv => lhs; whnf
    try (rw [decide_eq_true hq_x10]; conv => lhs; whnf)
    rw [hx_x10]
    conv => lhs; whnf
    obtain ⟨y11, h_y11, h⟩ := callK_inv h
    rw [cl_eq hcl (L_spec_l25PutTable a_0 (Int.toNat (i7 : Int)) h_y11)]
    rotate_left
    · show _ = _; kernel_rfl
    · show _ = _; kernel_rfl
    conv => lhs; whnf
    obtain ⟨hg12, h⟩ := grd_inv h
    rw [cat_run _ _ _ hg12]
    conv => lhs; whnf
    rw [wrap_nat i7 (by have := hn_i7; omega)]
    exact hnx9 _ _ _ _ (fun kk => by kernel_rfl) h
  · clear h
    rintro next_nx9 v8 r h
    try dsimp only at h
    have hd_i7 : (decide ((a_0.length : Int) < (a_0.length : Int))) = false := decide_eq_false (by omega)
    conv => lhs; whnf
    try rw [len_of (l := a_0) (r := rTableRef)]
    rw [hd_i7]
    conv => lhs; whnf
    obtain rfl := Option.some.inj h; show _ = _; kernel_rfl

noncomputable def p_spec_EncodeVersion (a_0 : Version) : Option ByteArray :=
  callK (p_spec_l25Ok a_0) fun y1 =>
  if y1 = true then
    callK (p_spec_EncodeUvarint a_0.NextId) fun y3 =>
    grd (((ByteArray.size (⟨#[1]⟩ : ByteArray) + ByteArray.size y3 : Nat) : Int) ≤ 9223372036854775807) <|
    callK (p_spec_EncodeUvarint a_0.LogZone) fun y4 =>
    grd (((ByteArray.size ((⟨#[1]⟩ : ByteArray) ++ y3) + ByteArray.size y4 : Nat) : Int) ≤ 9223372036854775807) <|
    callK (p_spec_EncodeUvarint a_0.LogSeq) fun y5 =>
    grd (((ByteArray.size (((⟨#[1]⟩ : ByteArray) ++ y3) ++ y4) + ByteArray.size y5 : Nat) : Int) ≤ 9223372036854775807) <|
    callK (p_spec_l25PutTables a_0.Tables) fun y6 =>
    grd (((ByteArray.size ((((⟨#[1]⟩ : ByteArray) ++ y3) ++ y4) ++ y5) + ByteArray.size y6 : Nat) : Int) ≤ 9223372036854775807) <|
    some (((((⟨#[1]⟩ : ByteArray) ++ y3) ++ y4) ++ y5) ++ y6)
  else
    some (⟨#[]⟩ : ByteArray)

set_option maxHeartbeats 4000000 in
theorem L_spec_EncodeVersion (a_0 : Version) {r : ByteArray} (h : p_spec_EncodeVersion a_0 = some r) : callL E 135 [.agg [IN a_0.NextId, IN a_0.LogZone, IN a_0.LogSeq, .d (.arr (a_0.Tables.map rTableRef))]] ([] : Fo) = some (ST r, ([] : Fo)) := by
  unfold p_spec_EncodeVersion at h
  refine callW (fu := Try.f135) rfl rfl rfl NN ?_
  intro lp cl hlp hcl
  conv => lhs; whnf
  obtain ⟨y1, h_y1, h⟩ := callK_inv h
  rw [cl_eq hcl (L_spec_l25Ok a_0 h_y1)]
  rotate_left
  · show _ = _; kernel_rfl
  · show _ = _; kernel_rfl
  conv => lhs; whnf
  cases hb2 : y1
  · replace h := ifF h (booF hb2); conv => lhs; whnf
    obtain rfl := Option.some.inj h; show _ = _; kernel_rfl
  · replace h := ifT h hb2; conv => lhs; whnf
    obtain ⟨y3, h_y3, h⟩ := callK_inv h
    rw [cl_eq hcl (L_spec_EncodeUvarint a_0.NextId h_y3)]
    rotate_left
    · show _ = _; kernel_rfl
    · show _ = _; kernel_rfl
    conv => lhs; whnf
    obtain ⟨hg7, h⟩ := grd_inv h
    rw [cat_run _ _ _ hg7]
    conv => lhs; whnf
    obtain ⟨y4, h_y4, h⟩ := callK_inv h
    rw [cl_eq hcl (L_spec_EncodeUvarint a_0.LogZone h_y4)]
    rotate_left
    · show _ = _; kernel_rfl
    · show _ = _; kernel_rfl
    conv => lhs; whnf
    obtain ⟨hg8, h⟩ := grd_inv h
    rw [cat_run _ _ _ hg8]
    conv => lhs; whnf
    obtain ⟨y5, h_y5, h⟩ := callK_inv h
    rw [cl_eq hcl (L_spec_EncodeUvarint a_0.LogSeq h_y5)]
    rotate_left
    · show _ = _; kernel_rfl
    · show _ = _; kernel_rfl
    conv => lhs; whnf
    obtain ⟨hg9, h⟩ := grd_inv h
    rw [cat_run _ _ _ hg9]
    conv => lhs; whnf
    obtain ⟨y6, h_y6, h⟩ := callK_inv h
    rw [cl_eq hcl (L_spec_l25PutTables a_0.Tables h_y6)]
    rotate_left
    · show _ = _; kernel_rfl
    · show _ = _; kernel_rfl
    conv => lhs; whnf
    obtain ⟨hg10, h⟩ := grd_inv h
    rw [cat_run _ _ _ hg10]
    conv => lhs; whnf
    obtain rfl := Option.some.inj h; show _ = _; kernel_rfl

noncomputable def p_spec_DecodeVersion (a_0 : ByteArray) : Option (Version × Bool) :=
  if (a_0.toList == (⟨#[]⟩ : ByteArray).toList) = true then
    some ((⟨0, 0, 0, ([] : List TableRef)⟩ : Version), false)
  else
    getB a_0 0 fun c2 =>
    if ¬ c2 = 1 then
      some ((⟨0, 0, 0, ([] : List TableRef)⟩ : Version), false)
    else
      grd (0 ≤ 1 ∧ 1 ≤ (ByteArray.size a_0 : Int) ∧ (ByteArray.size a_0 : Int) ≤ (ByteArray.size a_0 : Int)) <|
      callK (p_spec_l25Src_num (⟨(ByteArray.extract a_0 (Int.toNat 1) (Int.toNat (ByteArray.size a_0 : Int))), false⟩ : Sl25Src)) fun y4 =>
      callK (p_spec_l25Src_num y4.2) fun y5 =>
      callK (p_spec_l25Src_num y5.2) fun y6 =>
      callK (p_spec_l25Src_tables y6.2) fun y7 =>
      if y7.2.Bad = true then
        some ((⟨0, 0, 0, ([] : List TableRef)⟩ : Version), false)
      else
        callK (p_spec_l25Ok (⟨y4.1, y5.1, y6.1, y7.1⟩ : Version)) fun y9 =>
        if y9 = true then
          callK (p_spec_EncodeVersion (⟨y4.1, y5.1, y6.1, y7.1⟩ : Version)) fun y11 =>
          if (y11.toList == a_0.toList) = true then
            some ((⟨y4.1, y5.1, y6.1, y7.1⟩ : Version), true)
          else
            some ((⟨0, 0, 0, ([] : List TableRef)⟩ : Version), false)
        else
          some ((⟨0, 0, 0, ([] : List TableRef)⟩ : Version), false)

set_option maxHeartbeats 4000000 in
theorem L_spec_DecodeVersion (a_0 : ByteArray) {r : (Version × Bool)} (h : p_spec_DecodeVersion a_0 = some r) : callL E 44 [ST a_0] ([] : Fo) = some (.tup [.agg [IN r.1.NextId, IN r.1.LogZone, IN r.1.LogSeq, .d (.arr (r.1.Tables.map rTableRef))], BO r.2], ([] : Fo)) := by
  unfold p_spec_DecodeVersion at h
  refine callW (fu := Try.f44) rfl rfl rfl NN ?_
  intro lp cl hlp hcl
  conv => lhs; whnf
  cases hb1 : (a_0.toList == (⟨#[]⟩ : ByteArray).toList)
  · replace h := ifF h (booF hb1); conv => lhs; whnf
    try (rw [hb1]; conv => lhs; whnf)
    obtain ⟨c2', hq_c2, hc_c2, h⟩ := getB_inv h
    try (rw [decide_eq_true hq_c2]; conv => lhs; whnf)
    rw [hc_c2]
    conv => lhs; whnf
    generalize he_c2 : (c2'.toNat : Int) = c2 at h ⊢
    conv => lhs; whnf
    try (rw [hb1]; conv => lhs; whnf)
    try (rw [hb1]; conv => lhs; whnf)
    cases hb3 : (c2 != 1)
    · replace h := ifF h ((fun h => not_not_intro (bneF h)) hb3); conv => lhs; whnf
      obtain ⟨hg13, h⟩ := grd_inv h
      try (rw [decide_eq_true hg13.1]; conv => lhs; whnf)
      try (rw [decide_eq_true hg13.2.1]; conv => lhs; whnf)
      try (rw [decide_eq_true hg13.2.2])
      conv => lhs; whnf
      obtain ⟨y4, h_y4, h⟩ := callK_inv h
      rw [cl_eq hcl (L_spec_l25Src_num (⟨(ByteArray.extract a_0 (Int.toNat 1) (Int.toNat (ByteArray.size a_0 : Int))), false⟩ : Sl25Src) h_y4)]
      rotate_left
      · show _ = _; kernel_rfl
      · show _ = _; kernel_rfl
      conv => lhs; whnf
      obtain ⟨y5, h_y5, h⟩ := callK_inv h
      rw [cl_eq hcl (L_spec_l25Src_num y4.2 h_y5)]
      rotate_left
      · show _ = _; kernel_rfl
      · show _ = _; kernel_rfl
      conv => lhs; whnf
      obtain ⟨y6, h_y6, h⟩ := callK_inv h
      rw [cl_eq hcl (L_spec_l25Src_num y5.2 h_y6)]
      rotate_left
      · show _ = _; kernel_rfl
      · show _ = _; kernel_rfl
      conv => lhs; whnf
      obtain ⟨y7, h_y7, h⟩ := callK_inv h
      rw [cl_eq hcl (L_spec_l25Src_tables y6.2 h_y7)]
      rotate_left
      · show _ = _; kernel_rfl
      · show _ = _; kernel_rfl
      conv => lhs; whnf
      cases hb8 : y7.2.Bad
      · replace h := ifF h (booF hb8); conv => lhs; whnf
        obtain ⟨y9, h_y9, h⟩ := callK_inv h
        rw [cl_eq hcl (L_spec_l25Ok (⟨y4.1, y5.1, y6.1, y7.1⟩ : Version) h_y9)]
        rotate_left
        · show _ = _; kernel_rfl
        · show _ = _; kernel_rfl
        conv => lhs; whnf
        try (rw [hb8]; conv => lhs; whnf)
        try (rw [hb8]; conv => lhs; whnf)
        cases hb10 : y9
        · replace h := ifF h (booF hb10); conv => lhs; whnf
          try (rw [hb10]; conv => lhs; whnf)
          try (rw [hb10]; conv => lhs; whnf)
          try (rw [hb10]; conv => lhs; whnf)
          try (rw [hb10]; conv => lhs; whnf)
          obtain rfl := Option.some.inj h; show _ = _; kernel_rfl
        · replace h := ifT h hb10; conv => lhs; whnf
          try (rw [hb10]; conv => lhs; whnf)
          obtain ⟨y11, h_y11, h⟩ := callK_inv h
          rw [cl_eq hcl (L_spec_EncodeVersion (⟨y4.1, y5.1, y6.1, y7.1⟩ : Version) h_y11)]
          rotate_left
          · show _ = _; kernel_rfl
          · show _ = _; kernel_rfl
          conv => lhs; whnf
          try (rw [hb10]; conv => lhs; whnf)
          try (rw [hb10]; conv => lhs; whnf)
          try (rw [hb10]; conv => lhs; whnf)
          cases hb12 : (y11.toList == a_0.toList)
          · replace h := ifF h (booF hb12); conv => lhs; whnf
            obtain rfl := Option.some.inj h; show _ = _; kernel_rfl
          · replace h := ifT h hb12; conv => lhs; whnf
            obtain rfl := Option.some.inj h; show _ = _; kernel_rfl
      · replace h := ifT h hb8; conv => lhs; whnf
        try (rw [hb8]; conv => lhs; whnf)
        try (rw [hb8]; conv => lhs; whnf)
        obtain rfl := Option.some.inj h; show _ = _; kernel_rfl
    · replace h := ifT h (bneT hb3); conv => lhs; whnf
      obtain rfl := Option.some.inj h; show _ = _; kernel_rfl
  · replace h := ifT h hb1; conv => lhs; whnf
    try (rw [hb1]; conv => lhs; whnf)
    try (rw [hb1]; conv => lhs; whnf)
    try (rw [hb1]; conv => lhs; whnf)
    obtain rfl := Option.some.inj h; show _ = _; kernel_rfl

noncomputable def p_internal_stringslite_HasPrefix (a_0 : ByteArray) (a_1 : ByteArray) : Option Bool :=
  if (ByteArray.size a_0 : Int) ≥ (ByteArray.size a_1 : Int) then
    grd (0 ≤ 0 ∧ 0 ≤ (ByteArray.size a_1 : Int) ∧ (ByteArray.size a_1 : Int) ≤ (ByteArray.size a_0 : Int)) <|
    some ((ByteArray.extract a_0 (Int.toNat 0) (Int.toNat (ByteArray.size a_1 : Int))).toList == a_1.toList)
  else
    some false

set_option maxHeartbeats 4000000 in
theorem L_internal_stringslite_HasPrefix (a_0 : ByteArray) (a_1 : ByteArray) {r : Bool} (h : p_internal_stringslite_HasPrefix a_0 a_1 = some r) : callL E 278 [ST a_0, ST a_1] ([] : Fo) = some (BO r, ([] : Fo)) := by
  unfold p_internal_stringslite_HasPrefix at h
  refine callW (fu := Try.f278) rfl rfl rfl NN ?_
  intro lp cl hlp hcl
  conv => lhs; whnf
  cases hb1 : (decide ((ByteArray.size a_0 : Int) ≥ (ByteArray.size a_1 : Int)))
  · replace h := ifF h (decF hb1); conv => lhs; whnf
    try (rw [hb1]; conv => lhs; whnf)
    try (rw [hb1]; conv => lhs; whnf)
    try (rw [hb1]; conv => lhs; whnf)
    try (rw [hb1]; conv => lhs; whnf)
    try (rw [hb1]; conv => lhs; whnf)
    try (rw [hb1]; conv => lhs; whnf)
    obtain rfl := Option.some.inj h; show _ = _; kernel_rfl
  · replace h := ifT h (decT hb1); conv => lhs; whnf
    try (rw [hb1]; conv => lhs; whnf)
    try (rw [hb1]; conv => lhs; whnf)
    try (rw [hb1]; conv => lhs; whnf)
    obtain ⟨hg2, h⟩ := grd_inv h
    try (rw [decide_eq_true hg2.1]; conv => lhs; whnf)
    try (rw [decide_eq_true hg2.2.1]; conv => lhs; whnf)
    try (rw [decide_eq_true hg2.2.2])
    conv => lhs; whnf
    try (rw [hb1]; conv => lhs; whnf)
    try (rw [hb1]; conv => lhs; whnf)
    try (rw [hb1]; conv => lhs; whnf)
    obtain rfl := Option.some.inj h; show _ = _; kernel_rfl

noncomputable def p_internal_stringslite_CutPrefix (a_0 : ByteArray) (a_1 : ByteArray) : Option (ByteArray × Bool) :=
  callK (p_internal_stringslite_HasPrefix a_0 a_1) fun y1 =>
  if y1 = true then
    grd (0 ≤ (ByteArray.size a_1 : Int) ∧ (ByteArray.size a_1 : Int) ≤ (ByteArray.size a_0 : Int) ∧ (ByteArray.size a_0 : Int) ≤ (ByteArray.size a_0 : Int)) <|
    some ((ByteArray.extract a_0 (Int.toNat (ByteArray.size a_1 : Int)) (Int.toNat (ByteArray.size a_0 : Int))), true)
  else
    some (a_0, false)

set_option maxHeartbeats 4000000 in
theorem L_internal_stringslite_CutPrefix (a_0 : ByteArray) (a_1 : ByteArray) {r : (ByteArray × Bool)} (h : p_internal_stringslite_CutPrefix a_0 a_1 = some r) : callL E 220 [ST a_0, ST a_1] ([] : Fo) = some (.tup [ST r.1, BO r.2], ([] : Fo)) := by
  unfold p_internal_stringslite_CutPrefix at h
  refine callW (fu := Try.f220) rfl rfl rfl NN ?_
  intro lp cl hlp hcl
  conv => lhs; whnf
  obtain ⟨y1, h_y1, h⟩ := callK_inv h
  rw [cl_eq hcl (L_internal_stringslite_HasPrefix a_0 a_1 h_y1)]
  rotate_left
  · show _ = _; kernel_rfl
  · show _ = _; kernel_rfl
  conv => lhs; whnf
  cases hb2 : y1
  · replace h := ifF h (booF hb2); conv => lhs; whnf
    obtain rfl := Option.some.inj h; show _ = _; kernel_rfl
  · replace h := ifT h hb2; conv => lhs; whnf
    obtain ⟨hg3, h⟩ := grd_inv h
    try (rw [decide_eq_true hg3.1]; conv => lhs; whnf)
    try (rw [decide_eq_true hg3.2.1]; conv => lhs; whnf)
    try (rw [decide_eq_true hg3.2.2])
    conv => lhs; whnf
    obtain rfl := Option.some.inj h; show _ = _; kernel_rfl

noncomputable def p_strings_CutPrefix (a_0 : ByteArray) (a_1 : ByteArray) : Option (ByteArray × Bool) :=
  callK (p_internal_stringslite_CutPrefix a_0 a_1) fun y1 =>
  some (y1.1, y1.2)

set_option maxHeartbeats 4000000 in
theorem L_strings_CutPrefix (a_0 : ByteArray) (a_1 : ByteArray) {r : (ByteArray × Bool)} (h : p_strings_CutPrefix a_0 a_1 = some r) : callL E 122 [ST a_0, ST a_1] ([] : Fo) = some (.tup [ST r.1, BO r.2], ([] : Fo)) := by
  unfold p_strings_CutPrefix at h
  refine callW (fu := Try.f122) rfl rfl rfl NN ?_
  intro lp cl hlp hcl
  conv => lhs; whnf
  obtain ⟨y1, h_y1, h⟩ := callK_inv h
  rw [cl_eq hcl (L_internal_stringslite_CutPrefix a_0 a_1 h_y1)]
  rotate_left
  · show _ = _; kernel_rfl
  · show _ = _; kernel_rfl
  conv => lhs; whnf
  obtain rfl := Option.some.inj h; show _ = _; kernel_rfl

structure Sreader where
  Rest : ByteArray
  Bad : Bool
def rSreader (x : Sreader) : List D := [dS x.Rest, dB x.Bad]
theorem rSreader_len : ∀ x, (rSreader x).length = 2 := fun _ => rfl

noncomputable def p_impl_DecodeUvarint (a_0 : ByteArray) : Option (Int × Int × Bool) :=
  grd ((ByteArray.size a_0 : Int) < 4611686018427387904) <|
  forI (ByteArray.size a_0 : Int) (fun (i9 : Nat) (v10 : Int) (nx11 : Int → Option _) =>
    if (i9 : Int) < 9 then
      getB a_0 (i9 : Int) fun c13 =>
      grd (0 ≤ (IntKind.i64.wrap (7 * (i9 : Int)))) <|
      if c13 < 128 then
        if (i9 : Int) > 0 then
          if c13 = 0 then
            some (0, 0, false)
          else
            some ((orK .i64 v10 (IntKind.i64.wrap ((IntKind.i64.wrap (andK .u8 c13 127)) * 2 ^ (min (Int.toNat (IntKind.i64.wrap (7 * (i9 : Int)))) IntKind.i64.bits)))), (IntKind.i64.wrap ((i9 : Int) + 1)), true)
        else
          some ((orK .i64 v10 (IntKind.i64.wrap ((IntKind.i64.wrap (andK .u8 c13 127)) * 2 ^ (min (Int.toNat (IntKind.i64.wrap (7 * (i9 : Int)))) IntKind.i64.bits)))), (IntKind.i64.wrap ((i9 : Int) + 1)), true)
      else
        nx11 (orK .i64 v10 (IntKind.i64.wrap ((IntKind.i64.wrap (andK .u8 c13 127)) * 2 ^ (min (Int.toNat (IntKind.i64.wrap (7 * (i9 : Int)))) IntKind.i64.bits))))
    else
      some (0, 0, false)) 0 (fun (v10 : Int) =>
    some (0, 0, false))

set_option maxHeartbeats 4000000 in
theorem L_impl_DecodeUvarint (a_0 : ByteArray) {r : (Int × Int × Bool)} (h : p_impl_DecodeUvarint a_0 = some r) : callL E 80 [ST a_0] ([] : Fo) = some (.tup [IN r.1, IN r.2.1, BO r.2.2], ([] : Fo)) := by
  unfold p_impl_DecodeUvarint at h
  refine callW (fu := Try.f80) rfl rfl rfl NN ?_
  intro lp cl hlp hcl
  conv => lhs; whnf
  obtain ⟨hl_i9, h⟩ := grd_inv h
  refine loop_forI hlp (n := (ByteArray.size a_0 : Int)) hl_i9 (fun (i9 : Nat) (v10 : Int) => ([ST a_0, .dead, .dead, .dead, .dead, IN v10, IN (i9 : Int)] ++ List.replicate 35 .dead : List V)) (fun (i9 : Nat) (v10 : Int) => ([] : Fo)) (fun (r : (Int × Int × Bool)) => ((.tup [IN r.1, IN r.2.1, BO r.2.2] : V), ([] : Fo))) ?_ ?_ 0 _ (fun kk => by kernel_rfl) h
  · clear h
    rintro next_nx11 nx11 i9 hi_i9 hnx11 v10 r h
    try dsimp only at h
    have hn_i9 : i9 < 4611686018427387904 := by omega
    have hd_i9 : (decide ((i9 : Int) < (ByteArray.size a_0 : Int))) = true := decide_eq_true (by omega)
    conv => lhs; whnf
    rw [hd_i9]
    conv => lhs; whnf
    try (rw [hd_i9]; conv => lhs; whnf)
    try (rw [hd_i9]; conv => lhs; whnf)
    cases hb12 : (decide ((i9 : Int) < 9))
    · replace h := ifF h (decF hb12); conv => lhs; whnf
      obtain rfl := Option.some.inj h; show _ = _; kernel_rfl
    · replace h := ifT h (decT hb12); conv => lhs; whnf
      obtain ⟨c13', hq_c13, hc_c13, h⟩ := getB_inv h
      try (rw [decide_eq_true hq_c13]; conv => lhs; whnf)
      rw [hc_c13]
      conv => lhs; whnf
      generalize he_c13 : (c13'.toNat : Int) = c13 at h ⊢
      conv => lhs; whnf
      obtain ⟨hg17, h⟩ := grd_inv h
      try (rw [shl_run _ _ _ _ _ hg17]; conv => lhs; whnf)
      conv => lhs; whnf
      try (rw [decide_eq_true hq_c13]; conv => lhs; whnf)
      rw [hc_c13]
      conv => lhs; whnf
      try rw [he_c13]
      conv => lhs; whnf
      cases hb14 : (decide (c13 < 128))
      · replace h := ifF h (decF hb14); conv => lhs; whnf
        rw [wrap_nat i9 (by have := hn_i9; omega)]
        exact hnx11 _ _ _ _ (fun kk => by kernel_rfl) h
      · replace h := ifT h (decT hb14); conv => lhs; whnf
        cases hb15 : (decide ((i9 : Int) > 0))
        · replace h := ifF h (decF hb15); conv => lhs; whnf
          try (rw [hb15]; conv => lhs; whnf)
          try (rw [hb15]; conv => lhs; whnf)
          try (rw [hb15]; conv => lhs; whnf)
          try (rw [hb15]; conv => lhs; whnf)
          obtain rfl := Option.some.inj h; show _ = _; kernel_rfl
        · replace h := ifT h (decT hb15); conv => lhs; whnf
          try (rw [hb15]; conv => lhs; whnf)
          try (rw [hb15]; conv => lhs; whnf)
          try (rw [decide_eq_true hq_c13]; conv => lhs; whnf)
          rw [hc_c13]
          conv => lhs; whnf
          try rw [he_c13]
          conv => lhs; whnf
          try (rw [hb15]; conv => lhs; whnf)
          try (rw [hb15]; conv => lhs; whnf)
          cases hb16 : (c13 == 0)
          · replace h := ifF h (beqF hb16); conv => lhs; whnf
            obtain rfl := Option.some.inj h; show _ = _; kernel_rfl
          · replace h := ifT h (beqT hb16); conv => lhs; whnf
            obtain rfl := Option.some.inj h; show _ = _; kernel_rfl
  · clear h
    rintro next_nx11 v10 r h
    try dsimp only at h
    have hd_i9 : (decide (((Int.toNat (ByteArray.size a_0 : Int)) : Int) < (ByteArray.size a_0 : Int))) = false := decide_eq_false (by omega)
    conv => lhs; whnf
    rw [hd_i9]
    conv => lhs; whnf
    try (rw [hd_i9]; conv => lhs; whnf)
    try (rw [hd_i9]; conv => lhs; whnf)
    obtain rfl := Option.some.inj h; show _ = _; kernel_rfl

noncomputable def p_impl_reader_number (a_0 : Sreader) : Option (Int × Sreader) :=
  callK (p_impl_DecodeUvarint a_0.Rest) fun y1 =>
  if a_0.Bad = true then
    grd (0 ≤ y1.2.1 ∧ y1.2.1 ≤ (ByteArray.size a_0.Rest : Int) ∧ (ByteArray.size a_0.Rest : Int) ≤ (ByteArray.size a_0.Rest : Int)) <|
    some (y1.1, (⟨(ByteArray.extract a_0.Rest (Int.toNat y1.2.1) (Int.toNat (ByteArray.size a_0.Rest : Int))), true⟩ : Sreader))
  else
    grd (0 ≤ y1.2.1 ∧ y1.2.1 ≤ (ByteArray.size a_0.Rest : Int) ∧ (ByteArray.size a_0.Rest : Int) ≤ (ByteArray.size a_0.Rest : Int)) <|
    some (y1.1, (⟨(ByteArray.extract a_0.Rest (Int.toNat y1.2.1) (Int.toNat (ByteArray.size a_0.Rest : Int))), (!y1.2.2)⟩ : Sreader))

set_option maxHeartbeats 4000000 in
theorem L_impl_reader_number (a_0 : Sreader) {r : (Int × Sreader)} (h : p_impl_reader_number a_0 = some r) : callL E 123 [.bp 0 0] ([some (.box [ST a_0.Rest, BO a_0.Bad])] : Fo) = some (IN r.1, ([some (.box [ST r.2.Rest, BO r.2.Bad])] : Fo)) := by
  unfold p_impl_reader_number at h
  refine callW (fu := Try.f123) rfl rfl rfl NN ?_
  intro lp cl hlp hcl
  conv => lhs; whnf
  obtain ⟨y1, h_y1, h⟩ := callK_inv h
  rw [cl_eq hcl (L_impl_DecodeUvarint a_0.Rest h_y1)]
  rotate_left
  · show _ = _; kernel_rfl
  · show _ = _; kernel_rfl
  conv => lhs; whnf
  cases hb2 : a_0.Bad
  · replace h := ifF h (booF hb2); conv => lhs; whnf
    try (rw [hb2]; conv => lhs; whnf)
    try (rw [hb2]; conv => lhs; whnf)
    obtain ⟨hg3, h⟩ := grd_inv h
    try (rw [decide_eq_true hg3.1]; conv => lhs; whnf)
    try (rw [decide_eq_true hg3.2.1]; conv => lhs; whnf)
    try (rw [decide_eq_true hg3.2.2])
    conv => lhs; whnf
    obtain rfl := Option.some.inj h; show _ = _; kernel_rfl
  · replace h := ifT h hb2; conv => lhs; whnf
    try (rw [hb2]; conv => lhs; whnf)
    try (rw [hb2]; conv => lhs; whnf)
    obtain ⟨hg4, h⟩ := grd_inv h
    try (rw [decide_eq_true hg4.1]; conv => lhs; whnf)
    try (rw [decide_eq_true hg4.2.1]; conv => lhs; whnf)
    try (rw [decide_eq_true hg4.2.2])
    conv => lhs; whnf
    obtain rfl := Option.some.inj h; show _ = _; kernel_rfl

noncomputable def p_impl_DecodeString (a_0 : ByteArray) : Option (ByteArray × Int × Bool) :=
  callK (p_impl_DecodeUvarint a_0) fun y1 =>
  if y1.2.2 = true then
    if y1.1 > (IntKind.i64.wrap ((ByteArray.size a_0 : Int) - y1.2.1)) then
      some ((⟨#[]⟩ : ByteArray), 0, false)
    else
      grd (0 ≤ y1.2.1 ∧ y1.2.1 ≤ (IntKind.i64.wrap (y1.2.1 + y1.1)) ∧ (IntKind.i64.wrap (y1.2.1 + y1.1)) ≤ (ByteArray.size a_0 : Int)) <|
      some ((ByteArray.extract a_0 (Int.toNat y1.2.1) (Int.toNat (IntKind.i64.wrap (y1.2.1 + y1.1)))), (IntKind.i64.wrap (y1.2.1 + y1.1)), true)
  else
    some ((⟨#[]⟩ : ByteArray), 0, false)

set_option maxHeartbeats 4000000 in
theorem L_impl_DecodeString (a_0 : ByteArray) {r : (ByteArray × Int × Bool)} (h : p_impl_DecodeString a_0 = some r) : callL E 84 [ST a_0] ([] : Fo) = some (.tup [ST r.1, IN r.2.1, BO r.2.2], ([] : Fo)) := by
  unfold p_impl_DecodeString at h
  refine callW (fu := Try.f84) rfl rfl rfl NN ?_
  intro lp cl hlp hcl
  conv => lhs; whnf
  obtain ⟨y1, h_y1, h⟩ := callK_inv h
  rw [cl_eq hcl (L_impl_DecodeUvarint a_0 h_y1)]
  rotate_left
  · show _ = _; kernel_rfl
  · show _ = _; kernel_rfl
  conv => lhs; whnf
  cases hb2 : y1.2.2
  · replace h := ifF h (booF hb2); conv => lhs; whnf
    try (rw [hb2]; conv => lhs; whnf)
    try (rw [hb2]; conv => lhs; whnf)
    try (rw [hb2]; conv => lhs; whnf)
    try (rw [hb2]; conv => lhs; whnf)
    try (rw [hb2]; conv => lhs; whnf)
    try (rw [hb2]; conv => lhs; whnf)
    obtain rfl := Option.some.inj h; show _ = _; kernel_rfl
  · replace h := ifT h hb2; conv => lhs; whnf
    try (rw [hb2]; conv => lhs; whnf)
    try (rw [hb2]; conv => lhs; whnf)
    try (rw [hb2]; conv => lhs; whnf)
    try (rw [hb2]; conv => lhs; whnf)
    try (rw [hb2]; conv => lhs; whnf)
    try (rw [hb2]; conv => lhs; whnf)
    cases hb3 : (decide (y1.1 > (IntKind.i64.wrap ((ByteArray.size a_0 : Int) - y1.2.1))))
    · replace h := ifF h (decF hb3); conv => lhs; whnf
      obtain ⟨hg4, h⟩ := grd_inv h
      try (rw [decide_eq_true hg4.1]; conv => lhs; whnf)
      try (rw [decide_eq_true hg4.2.1]; conv => lhs; whnf)
      try (rw [decide_eq_true hg4.2.2])
      conv => lhs; whnf
      obtain rfl := Option.some.inj h; show _ = _; kernel_rfl
    · replace h := ifT h (decT hb3); conv => lhs; whnf
      obtain rfl := Option.some.inj h; show _ = _; kernel_rfl

noncomputable def p_impl_reader_text (a_0 : Sreader) : Option (ByteArray × Sreader) :=
  callK (p_impl_DecodeString a_0.Rest) fun y1 =>
  if a_0.Bad = true then
    grd (0 ≤ y1.2.1 ∧ y1.2.1 ≤ (ByteArray.size a_0.Rest : Int) ∧ (ByteArray.size a_0.Rest : Int) ≤ (ByteArray.size a_0.Rest : Int)) <|
    some (y1.1, (⟨(ByteArray.extract a_0.Rest (Int.toNat y1.2.1) (Int.toNat (ByteArray.size a_0.Rest : Int))), true⟩ : Sreader))
  else
    grd (0 ≤ y1.2.1 ∧ y1.2.1 ≤ (ByteArray.size a_0.Rest : Int) ∧ (ByteArray.size a_0.Rest : Int) ≤ (ByteArray.size a_0.Rest : Int)) <|
    some (y1.1, (⟨(ByteArray.extract a_0.Rest (Int.toNat y1.2.1) (Int.toNat (ByteArray.size a_0.Rest : Int))), (!y1.2.2)⟩ : Sreader))

set_option maxHeartbeats 4000000 in
theorem L_impl_reader_text (a_0 : Sreader) {r : (ByteArray × Sreader)} (h : p_impl_reader_text a_0 = some r) : callL E 221 [.bp 0 0] ([some (.box [ST a_0.Rest, BO a_0.Bad])] : Fo) = some (ST r.1, ([some (.box [ST r.2.Rest, BO r.2.Bad])] : Fo)) := by
  unfold p_impl_reader_text at h
  refine callW (fu := Try.f221) rfl rfl rfl NN ?_
  intro lp cl hlp hcl
  conv => lhs; whnf
  obtain ⟨y1, h_y1, h⟩ := callK_inv h
  rw [cl_eq hcl (L_impl_DecodeString a_0.Rest h_y1)]
  rotate_left
  · show _ = _; kernel_rfl
  · show _ = _; kernel_rfl
  conv => lhs; whnf
  cases hb2 : a_0.Bad
  · replace h := ifF h (booF hb2); conv => lhs; whnf
    try (rw [hb2]; conv => lhs; whnf)
    try (rw [hb2]; conv => lhs; whnf)
    obtain ⟨hg3, h⟩ := grd_inv h
    try (rw [decide_eq_true hg3.1]; conv => lhs; whnf)
    try (rw [decide_eq_true hg3.2.1]; conv => lhs; whnf)
    try (rw [decide_eq_true hg3.2.2])
    conv => lhs; whnf
    obtain rfl := Option.some.inj h; show _ = _; kernel_rfl
  · replace h := ifT h hb2; conv => lhs; whnf
    try (rw [hb2]; conv => lhs; whnf)
    try (rw [hb2]; conv => lhs; whnf)
    obtain ⟨hg4, h⟩ := grd_inv h
    try (rw [decide_eq_true hg4.1]; conv => lhs; whnf)
    try (rw [decide_eq_true hg4.2.1]; conv => lhs; whnf)
    try (rw [decide_eq_true hg4.2.2])
    conv => lhs; whnf
    obtain rfl := Option.some.inj h; show _ = _; kernel_rfl

noncomputable def p_impl_reader_refs (a_0 : Sreader) : Option (Sreader × (List TableRef)) :=
  callK (p_impl_reader_number a_0) fun y1 =>
  iterK (fun ((v2, v3, v4) : (Int × Sreader × (List TableRef))) (nx5 : (Int × Sreader × (List TableRef)) → Option _) =>
    if v2 > 0 then
      if v3.Bad = true then
        some ((⟨v3.Rest, true⟩ : Sreader), v4)
      else
        callK (p_impl_reader_number (⟨v3.Rest, false⟩ : Sreader)) fun y8 =>
        callK (p_impl_reader_number y8.2) fun y9 =>
        callK (p_impl_reader_number y9.2) fun y10 =>
        callK (p_impl_reader_number y10.2) fun y11 =>
        callK (p_impl_reader_number y11.2) fun y12 =>
        callK (p_impl_reader_text y12.2) fun y13 =>
        callK (p_impl_reader_text y13.2) fun y14 =>
        callK (p_impl_reader_number y14.2) fun y15 =>
        callK (p_impl_reader_number y15.2) fun y16 =>
        callK (p_impl_reader_number y16.2) fun y17 =>
        grd (appOk (v4.length + 1) 96 = true) <|
        nx5 ((IntKind.i64.wrap (v2 - 1)), y17.2, (v4 ++ ([(⟨y8.1, y9.1, y10.1, y11.1, y12.1, y13.1, y14.1, y15.1, y16.1, y17.1⟩ : TableRef)] : List TableRef)))
    else
      some (v3, v4)) NN (y1.1, y1.2, ([] : List TableRef))

set_option maxHeartbeats 4000000 in
theorem L_impl_reader_refs (a_0 : Sreader) {r : (Sreader × (List TableRef))} (h : p_impl_reader_refs a_0 = some r) : callL E 125 [.bp 0 0] ([some (.box [ST a_0.Rest, BO a_0.Bad])] : Fo) = some (.sl 1, ([some (.box [ST r.1.Rest, BO r.1.Bad]), some (.arr 231 10 (r.2.map rTableRef))] : Fo)) := by
  unfold p_impl_reader_refs at h
  refine callW (fu := Try.f125) rfl rfl rfl NN ?_
  intro lp cl hlp hcl
  conv => lhs; whnf
  obtain ⟨y1, h_y1, h⟩ := callK_inv h
  rw [cl_eq hcl (L_impl_reader_number a_0 h_y1)]
  rotate_left
  · show _ = _; kernel_rfl
  · show _ = _; kernel_rfl
  conv => lhs; whnf
  refine loop_iter hlp (fun ((v2, v3, v4) : (Int × Sreader × (List TableRef))) => ([.bp 0 0, .dead, .dead, .sl 1, IN v2] ++ List.replicate 38 .dead : List V)) (fun ((v2, v3, v4) : (Int × Sreader × (List TableRef))) => ([some (.box [ST v3.Rest, BO v3.Bad]), some (.arr 231 10 (v4.map rTableRef))] : Fo)) (fun (r : (Sreader × (List TableRef))) => ((.sl 1 : V), ([some (.box [ST r.1.Rest, BO r.1.Bad]), some (.arr 231 10 (r.2.map rTableRef))] : Fo))) ?_ (y1.1, y1.2, ([] : List TableRef)) _ (fun kk => by kernel_rfl) h
  clear h
  rintro next_nx5 nx5 hnx5 ⟨v2, v3, v4⟩ r h
  try dsimp only at h
  conv => lhs; whnf
  cases hb6 : (decide (v2 > 0))
  · replace h := ifF h (decF hb6); conv => lhs; whnf
    try (rw [hb6]; conv => lhs; whnf)
    try (rw [hb6]; conv => lhs; whnf)
    try (rw [hb6]; conv => lhs; whnf)
    try (rw [hb6]; conv => lhs; whnf)
    try (rw [hb6]; conv => lhs; whnf)
    obtain rfl := Option.some.inj h; show _ = _; kernel_rfl
  · replace h := ifT h (decT hb6); conv => lhs; whnf
    try (rw [hb6]; conv => lhs; whnf)
    try (rw [hb6]; conv => lhs; whnf)
    try (rw [hb6]; conv => lhs; whnf)
    try (rw [hb6]; conv => lhs; whnf)
    try (rw [hb6]; conv => lhs; whnf)
    cases hb7 : v3.Bad
    · replace h := ifF h (booF hb7); conv => lhs; whnf
      obtain ⟨y8, h_y8, h⟩ := callK_inv h
      rw [cl_eq hcl (L_impl_reader_number (⟨v3.Rest, false⟩ : Sreader) h_y8)]
      rotate_left
      · show _ = _; kernel_rfl
      · show _ = _; kernel_rfl
      conv => lhs; whnf
      obtain ⟨y9, h_y9, h⟩ := callK_inv h
      rw [cl_eq hcl (L_impl_reader_number y8.2 h_y9)]
      rotate_left
      · show _ = _; kernel_rfl
      · show _ = _; kernel_rfl
      conv => lhs; whnf
      obtain ⟨y10, h_y10, h⟩ := callK_inv h
      rw [cl_eq hcl (L_impl_reader_number y9.2 h_y10)]
      rotate_left
      · show _ = _; kernel_rfl
      · show _ = _; kernel_rfl
      conv => lhs; whnf
      obtain ⟨y11, h_y11, h⟩ := callK_inv h
      rw [cl_eq hcl (L_impl_reader_number y10.2 h_y11)]
      rotate_left
      · show _ = _; kernel_rfl
      · show _ = _; kernel_rfl
      conv => lhs; whnf
      obtain ⟨y12, h_y12, h⟩ := callK_inv h
      rw [cl_eq hcl (L_impl_reader_number y11.2 h_y12)]
      rotate_left
      · show _ = _; kernel_rfl
      · show _ = _; kernel_rfl
      conv => lhs; whnf
      obtain ⟨y13, h_y13, h⟩ := callK_inv h
      rw [cl_eq hcl (L_impl_reader_text y12.2 h_y13)]
      rotate_left
      · show _ = _; kernel_rfl
      · show _ = _; kernel_rfl
      conv => lhs; whnf
      obtain ⟨y14, h_y14, h⟩ := callK_inv h
      rw [cl_eq hcl (L_impl_reader_text y13.2 h_y14)]
      rotate_left
      · show _ = _; kernel_rfl
      · show _ = _; kernel_rfl
      conv => lhs; whnf
      obtain ⟨y15, h_y15, h⟩ := callK_inv h
      rw [cl_eq hcl (L_impl_reader_number y14.2 h_y15)]
      rotate_left
      · show _ = _; kernel_rfl
      · show _ = _; kernel_rfl
      conv => lhs; whnf
      obtain ⟨y16, h_y16, h⟩ := callK_inv h
      rw [cl_eq hcl (L_impl_reader_number y15.2 h_y16)]
      rotate_left
      · show _ = _; kernel_rfl
      · show _ = _; kernel_rfl
      conv => lhs; whnf
      obtain ⟨y17, h_y17, h⟩ := callK_inv h
      rw [cl_eq hcl (L_impl_reader_number y16.2 h_y17)]
      rotate_left
      · show _ = _; kernel_rfl
      · show _ = _; kernel_rfl
      conv => lhs; whnf
      obtain ⟨hg18, h⟩ := grd_inv h
      rw [app_eq hg18 ?h1 ?h2]
      case h1 => first | exact rfl | (simp only [List.length_map, List.length_cons, List.length_nil]; done) | (rw [List.length_map]; rfl)
      case h2 => exact rfl
      conv => lhs; whnf
      first | (rw [map_app_of (r := rTableRef) (l := v4) (m := ([(⟨y8.1, y9.1, y10.1, y11.1, y12.1, y13.1, y14.1, y15.1, y16.1, y17.1⟩ : TableRef)] : List TableRef)) ?hh]; case hh => exact rfl) | skip
      exact hnx5 _ _ _ _ (fun kk => by kernel_rfl) h
    · replace h := ifT h hb7; conv => lhs; whnf
      obtain rfl := Option.some.inj h; show _ = _; kernel_rfl

noncomputable def p_impl_reader_done (a_0 : Sreader) : Option (Bool × Sreader) :=
  if a_0.Bad = true then
    some (false, (⟨a_0.Rest, true⟩ : Sreader))
  else
    some ((a_0.Rest.toList == (⟨#[]⟩ : ByteArray).toList), (⟨a_0.Rest, false⟩ : Sreader))

set_option maxHeartbeats 4000000 in
theorem L_impl_reader_done (a_0 : Sreader) {r : (Bool × Sreader)} (h : p_impl_reader_done a_0 = some r) : callL E 126 [.bp 0 0] ([some (.box [ST a_0.Rest, BO a_0.Bad])] : Fo) = some (BO r.1, ([some (.box [ST r.2.Rest, BO r.2.Bad])] : Fo)) := by
  unfold p_impl_reader_done at h
  refine callW (fu := Try.f126) rfl rfl rfl NN ?_
  intro lp cl hlp hcl
  conv => lhs; whnf
  cases hb1 : a_0.Bad
  · replace h := ifF h (booF hb1); conv => lhs; whnf
    try (rw [hb1]; conv => lhs; whnf)
    try (rw [hb1]; conv => lhs; whnf)
    try (rw [hb1]; conv => lhs; whnf)
    try (rw [hb1]; conv => lhs; whnf)
    try (rw [hb1]; conv => lhs; whnf)
    obtain rfl := Option.some.inj h; show _ = _; kernel_rfl
  · replace h := ifT h hb1; conv => lhs; whnf
    try (rw [hb1]; conv => lhs; whnf)
    try (rw [hb1]; conv => lhs; whnf)
    try (rw [hb1]; conv => lhs; whnf)
    try (rw [hb1]; conv => lhs; whnf)
    try (rw [hb1]; conv => lhs; whnf)
    obtain rfl := Option.some.inj h; show _ = _; kernel_rfl

noncomputable def p_impl_ValidTable (a_0 : TableRef) : Option Bool :=
  if (inR a_0.Id 1 1000000) = true then
    if (inR a_0.Level 0 2) = true then
      if (inR a_0.Zone 0 11) = true then
        if (inR a_0.Page 0 1000) = true then
          if (inR a_0.Pages 1 100) = true then
            if (ByteArray.size a_0.Low : Int) ≤ 9 then
              if (ByteArray.size a_0.High : Int) ≤ 9 then
                if (Op.bytesLess a_0.Low.toList a_0.High.toList) = true then
                  if a_0.First > 0 then
                    if a_0.First ≤ a_0.Last then
                      if a_0.Last ≤ 1000000 then
                        some (inR a_0.Records 1 60)
                      else
                        some false
                    else
                      some false
                  else
                    some false
                else
                  some false
              else
                some false
            else
              some false
          else
            some false
        else
          some false
      else
        some false
    else
      some false
  else
    some false

set_option maxHeartbeats 4000000 in
theorem L_impl_ValidTable (a_0 : TableRef) {r : Bool} (h : p_impl_ValidTable a_0 = some r) : callL E 222 [.agg [IN a_0.Id, IN a_0.Level, IN a_0.Zone, IN a_0.Page, IN a_0.Pages, ST a_0.Low, ST a_0.High, IN a_0.First, IN a_0.Last, IN a_0.Records]] ([] : Fo) = some (BO r, ([] : Fo)) := by
  unfold p_impl_ValidTable at h
  refine callW (fu := Try.f222) rfl rfl rfl NN ?_
  intro lp cl hlp hcl
  conv => lhs; whnf
  rw [cl_eq hcl (L_impl_within a_0.Id 1 1000000 (pl_within a_0.Id 1 1000000))]
  rotate_left
  · show _ = _; kernel_rfl
  · show _ = _; kernel_rfl
  conv => lhs; whnf
  cases hb1 : (inR a_0.Id 1 1000000)
  · replace h := ifF h (booF hb1); conv => lhs; whnf
    try (rw [hb1]; conv => lhs; whnf)
    try (rw [hb1]; conv => lhs; whnf)
    try (rw [hb1]; conv => lhs; whnf)
    obtain rfl := Option.some.inj h; show _ = _; kernel_rfl
  · replace h := ifT h hb1; conv => lhs; whnf
    try (rw [hb1]; conv => lhs; whnf)
    try (rw [hb1]; conv => lhs; whnf)
    rw [cl_eq hcl (L_impl_within a_0.Level 0 2 (pl_within a_0.Level 0 2))]
    rotate_left
    · show _ = _; kernel_rfl
    · show _ = _; kernel_rfl
    conv => lhs; whnf
    try (rw [hb1]; conv => lhs; whnf)
    cases hb2 : (inR a_0.Level 0 2)
    · replace h := ifF h (booF hb2); conv => lhs; whnf
      try (rw [hb2]; conv => lhs; whnf)
      try (rw [hb2]; conv => lhs; whnf)
      try (rw [hb2]; conv => lhs; whnf)
      obtain rfl := Option.some.inj h; show _ = _; kernel_rfl
    · replace h := ifT h hb2; conv => lhs; whnf
      try (rw [hb2]; conv => lhs; whnf)
      try (rw [hb2]; conv => lhs; whnf)
      rw [cl_eq hcl (L_impl_within a_0.Zone 0 11 (pl_within a_0.Zone 0 11))]
      rotate_left
      · show _ = _; kernel_rfl
      · show _ = _; kernel_rfl
      conv => lhs; whnf
      try (rw [hb2]; conv => lhs; whnf)
      cases hb3 : (inR a_0.Zone 0 11)
      · replace h := ifF h (booF hb3); conv => lhs; whnf
        try (rw [hb3]; conv => lhs; whnf)
        try (rw [hb3]; conv => lhs; whnf)
        try (rw [hb3]; conv => lhs; whnf)
        obtain rfl := Option.some.inj h; show _ = _; kernel_rfl
      · replace h := ifT h hb3; conv => lhs; whnf
        try (rw [hb3]; conv => lhs; whnf)
        try (rw [hb3]; conv => lhs; whnf)
        rw [cl_eq hcl (L_impl_within a_0.Page 0 1000 (pl_within a_0.Page 0 1000))]
        rotate_left
        · show _ = _; kernel_rfl
        · show _ = _; kernel_rfl
        conv => lhs; whnf
        try (rw [hb3]; conv => lhs; whnf)
        cases hb4 : (inR a_0.Page 0 1000)
        · replace h := ifF h (booF hb4); conv => lhs; whnf
          try (rw [hb4]; conv => lhs; whnf)
          try (rw [hb4]; conv => lhs; whnf)
          try (rw [hb4]; conv => lhs; whnf)
          obtain rfl := Option.some.inj h; show _ = _; kernel_rfl
        · replace h := ifT h hb4; conv => lhs; whnf
          try (rw [hb4]; conv => lhs; whnf)
          try (rw [hb4]; conv => lhs; whnf)
          rw [cl_eq hcl (L_impl_within a_0.Pages 1 100 (pl_within a_0.Pages 1 100))]
          rotate_left
          · show _ = _; kernel_rfl
          · show _ = _; kernel_rfl
          conv => lhs; whnf
          try (rw [hb4]; conv => lhs; whnf)
          cases hb5 : (inR a_0.Pages 1 100)
          · replace h := ifF h (booF hb5); conv => lhs; whnf
            try (rw [hb5]; conv => lhs; whnf)
            try (rw [hb5]; conv => lhs; whnf)
            try (rw [hb5]; conv => lhs; whnf)
            try (rw [hb5]; conv => lhs; whnf)
            obtain rfl := Option.some.inj h; show _ = _; kernel_rfl
          · replace h := ifT h hb5; conv => lhs; whnf
            try (rw [hb5]; conv => lhs; whnf)
            try (rw [hb5]; conv => lhs; whnf)
            try (rw [hb5]; conv => lhs; whnf)
            try (rw [hb5]; conv => lhs; whnf)
            cases hb6 : (decide ((ByteArray.size a_0.Low : Int) ≤ 9))
            · replace h := ifF h (decF hb6); conv => lhs; whnf
              try (rw [hb6]; conv => lhs; whnf)
              try (rw [hb6]; conv => lhs; whnf)
              try (rw [hb6]; conv => lhs; whnf)
              try (rw [hb6]; conv => lhs; whnf)
              obtain rfl := Option.some.inj h; show _ = _; kernel_rfl
            · replace h := ifT h (decT hb6); conv => lhs; whnf
              try (rw [hb6]; conv => lhs; whnf)
              try (rw [hb6]; conv => lhs; whnf)
              try (rw [hb6]; conv => lhs; whnf)
              try (rw [hb6]; conv => lhs; whnf)
              cases hb7 : (decide ((ByteArray.size a_0.High : Int) ≤ 9))
              · replace h := ifF h (decF hb7); conv => lhs; whnf
                try (rw [hb7]; conv => lhs; whnf)
                try (rw [hb7]; conv => lhs; whnf)
                try (rw [hb7]; conv => lhs; whnf)
                try (rw [hb7]; conv => lhs; whnf)
                try (rw [hb7]; conv => lhs; whnf)
                obtain rfl := Option.some.inj h; show _ = _; kernel_rfl
              · replace h := ifT h (decT hb7); conv => lhs; whnf
                try (rw [hb7]; conv => lhs; whnf)
                try (rw [hb7]; conv => lhs; whnf)
                try (rw [hb7]; conv => lhs; whnf)
                try (rw [hb7]; conv => lhs; whnf)
                try (rw [hb7]; conv => lhs; whnf)
                cases hb8 : (Op.bytesLess a_0.Low.toList a_0.High.toList)
                · replace h := ifF h (booF hb8); conv => lhs; whnf
                  try (rw [hb8]; conv => lhs; whnf)
                  try (rw [hb8]; conv => lhs; whnf)
                  try (rw [hb8]; conv => lhs; whnf)
                  obtain rfl := Option.some.inj h; show _ = _; kernel_rfl
                · replace h := ifT h hb8; conv => lhs; whnf
                  try (rw [hb8]; conv => lhs; whnf)
                  try (rw [hb8]; conv => lhs; whnf)
                  try (rw [hb8]; conv => lhs; whnf)
                  cases hb9 : (decide (a_0.First > 0))
                  · replace h := ifF h (decF hb9); conv => lhs; whnf
                    try (rw [hb9]; conv => lhs; whnf)
                    try (rw [hb9]; conv => lhs; whnf)
                    try (rw [hb9]; conv => lhs; whnf)
                    try (rw [hb9]; conv => lhs; whnf)
                    try (rw [hb9]; conv => lhs; whnf)
                    obtain rfl := Option.some.inj h; show _ = _; kernel_rfl
                  · replace h := ifT h (decT hb9); conv => lhs; whnf
                    try (rw [hb9]; conv => lhs; whnf)
                    try (rw [hb9]; conv => lhs; whnf)
                    try (rw [hb9]; conv => lhs; whnf)
                    try (rw [hb9]; conv => lhs; whnf)
                    try (rw [hb9]; conv => lhs; whnf)
                    cases hb10 : (decide (a_0.First ≤ a_0.Last))
                    · replace h := ifF h (decF hb10); conv => lhs; whnf
                      try (rw [hb10]; conv => lhs; whnf)
                      try (rw [hb10]; conv => lhs; whnf)
                      try (rw [hb10]; conv => lhs; whnf)
                      obtain rfl := Option.some.inj h; show _ = _; kernel_rfl
                    · replace h := ifT h (decT hb10); conv => lhs; whnf
                      try (rw [hb10]; conv => lhs; whnf)
                      try (rw [hb10]; conv => lhs; whnf)
                      try (rw [hb10]; conv => lhs; whnf)
                      cases hb11 : (decide (a_0.Last ≤ 1000000))
                      · replace h := ifF h (decF hb11); conv => lhs; whnf
                        try (rw [hb11]; conv => lhs; whnf)
                        try (rw [hb11]; conv => lhs; whnf)
                        try (rw [hb11]; conv => lhs; whnf)
                        obtain rfl := Option.some.inj h; show _ = _; kernel_rfl
                      · replace h := ifT h (decT hb11); conv => lhs; whnf
                        try (rw [hb11]; conv => lhs; whnf)
                        try (rw [hb11]; conv => lhs; whnf)
                        rw [cl_eq hcl (L_impl_within a_0.Records 1 60 (pl_within a_0.Records 1 60))]
                        rotate_left
                        · show _ = _; kernel_rfl
                        · show _ = _; kernel_rfl
                        conv => lhs; whnf
                        try (rw [hb11]; conv => lhs; whnf)
                        obtain rfl := Option.some.inj h; show _ = _; kernel_rfl

noncomputable def p_impl_Version_tablesOk_c1 (a_0 : TableRef) (a_1 : TableRef) : Option Bool :=
  some (a_0.Id == a_1.Id)

set_option maxHeartbeats 4000000 in
theorem L_impl_Version_tablesOk_c1 (a_0 : TableRef) (a_1 : TableRef) {r : Bool} (h : p_impl_Version_tablesOk_c1 a_0 a_1 = some r) : callL E 281 [.agg [IN a_0.Id, IN a_0.Level, IN a_0.Zone, IN a_0.Page, IN a_0.Pages, ST a_0.Low, ST a_0.High, IN a_0.First, IN a_0.Last, IN a_0.Records], .bp 0 0] ([some (.box [IN a_1.Id, IN a_1.Level, IN a_1.Zone, IN a_1.Page, IN a_1.Pages, ST a_1.Low, ST a_1.High, IN a_1.First, IN a_1.Last, IN a_1.Records])] : Fo) = some (BO r, ([some (.box [IN a_1.Id, IN a_1.Level, IN a_1.Zone, IN a_1.Page, IN a_1.Pages, ST a_1.Low, ST a_1.High, IN a_1.First, IN a_1.Last, IN a_1.Records])] : Fo)) := by
  unfold p_impl_Version_tablesOk_c1 at h
  refine callW (fu := Try.f281) rfl rfl rfl NN ?_
  intro lp cl hlp hcl
  conv => lhs; whnf
  obtain rfl := Option.some.inj h; show _ = _; kernel_rfl

noncomputable def p_slices_IndexFunc_impl_Version_tablesOk_c1 (a_0 : List TableRef) (a_1 : TableRef) : Option Int :=
  grd (a_0.length < 4611686018427387904) <|
  forK a_0 (fun (i6 : Nat) x8 (_ : Unit) (nx7 : Unit → Option _) =>
    callK (p_impl_Version_tablesOk_c1 x8 a_1) fun y9 =>
    if y9 = true then
      some (i6 : Int)
    else
      nx7 ()) () (fun (_ : Unit) =>
    some (-1))

set_option maxHeartbeats 4000000 in
theorem L_slices_IndexFunc_impl_Version_tablesOk_c1 (a_0 : List TableRef) (a_1 : TableRef) {r : Int} (h : p_slices_IndexFunc_impl_Version_tablesOk_c1 a_0 a_1 = some r) : callL E 308 [.d (.arr (a_0.map rTableRef)), .clo 281 [.bp 0 0]] ([some (.box [IN a_1.Id, IN a_1.Level, IN a_1.Zone, IN a_1.Page, IN a_1.Pages, ST a_1.Low, ST a_1.High, IN a_1.First, IN a_1.Last, IN a_1.Records])] : Fo) = some (IN r, ([some (.box [IN a_1.Id, IN a_1.Level, IN a_1.Zone, IN a_1.Page, IN a_1.Pages, ST a_1.Low, ST a_1.High, IN a_1.First, IN a_1.Last, IN a_1.Records])] : Fo)) := by
  unfold p_slices_IndexFunc_impl_Version_tablesOk_c1 at h
  refine callW (fu := Try.f308) rfl rfl rfl NN ?_
  intro lp cl hlp hcl
  conv => lhs; whnf
  try rw [len_of (l := a_0) (r := rTableRef)]
  obtain ⟨hl_i6, h⟩ := grd_inv h
  refine loop_for hlp (l := a_0) hl_i6 (fun (i6 : Nat) (_ : Unit) => ([.d (.arr (a_0.map rTableRef)), .clo 281 [.bp 0 0], .dead, .dead, .dead, .dead, .dead, IN (a_0.length : Int), IN (i6 : Int)] ++ List.replicate 10 .dead : List V)) (fun (i6 : Nat) (_ : Unit) => ([some (.box [IN a_1.Id, IN a_1.Level, IN a_1.Zone, IN a_1.Page, IN a_1.Pages, ST a_1.Low, ST a_1.High, IN a_1.First, IN a_1.Last, IN a_1.Records])] : Fo)) (fun (r : Int) => ((IN r : V), ([some (.box [IN a_1.Id, IN a_1.Level, IN a_1.Zone, IN a_1.Page, IN a_1.Pages, ST a_1.Low, ST a_1.High, IN a_1.First, IN a_1.Last, IN a_1.Records])] : Fo))) ?_ ?_ () _ (fun kk => by kernel_rfl) h
  · clear h
    rintro next_nx7 nx7 i6 hi_i6 hnx7 ⟨⟩ r h
    try dsimp only at h
    have hn_i6 : i6 < 4611686018427387904 := by omega
    have hx_x8 := get_map rTableRef a_0 i6 hi_i6
    generalize a_0[i6] = x8 at h hx_x8
    have hd_i6 : (decide ((i6 : Int) < (a_0.length : Int))) = true := decide_eq_true (by omega)
    conv => lhs; whnf
    rw [hd_i6]
    conv => lhs; whnf
    try (rw [decide_eq_true hq_x8]; conv => lhs; whnf)
    rw [hx_x8]
    conv => lhs; whnf
    rw [hx_x8]
    conv => lhs; whnf
    obtain ⟨y9, h_y9, h⟩ := callK_inv h
    rw [cl_eq hcl (L_impl_Version_tablesOk_c1 x8 a_1 h_y9)]
    rotate_left
    · show _ = _; kernel_rfl
    · show _ = _; kernel_rfl
    conv => lhs; whnf
    cases hb10 : y9
    · replace h := ifF h (booF hb10); conv => lhs; whnf
      rw [wrap_nat i6 (by have := hn_i6; omega)]
      exact hnx7 _ _ _ _ (fun kk => by kernel_rfl) h
    · replace h := ifT h hb10; conv => lhs; whnf
      obtain rfl := Option.some.inj h; show _ = _; kernel_rfl
  · clear h
    rintro next_nx7 ⟨⟩ r h
    try dsimp only at h
    have hd_i6 : (decide ((a_0.length : Int) < (a_0.length : Int))) = false := decide_eq_false (by omega)
    conv => lhs; whnf
    rw [hd_i6]
    conv => lhs; whnf
    obtain rfl := Option.some.inj h; show _ = _; kernel_rfl

noncomputable def p_slices_ContainsFunc_impl_Version_tablesOk_c1 (a_0 : List TableRef) (a_1 : TableRef) : Option Bool :=
  callK (p_slices_IndexFunc_impl_Version_tablesOk_c1 a_0 a_1) fun y1 =>
  some (decide (y1 ≥ 0))

set_option maxHeartbeats 4000000 in
theorem L_slices_ContainsFunc_impl_Version_tablesOk_c1 (a_0 : List TableRef) (a_1 : TableRef) {r : Bool} (h : p_slices_ContainsFunc_impl_Version_tablesOk_c1 a_0 a_1 = some r) : callL E 280 [.d (.arr (a_0.map rTableRef)), .clo 281 [.bp 0 0]] ([some (.box [IN a_1.Id, IN a_1.Level, IN a_1.Zone, IN a_1.Page, IN a_1.Pages, ST a_1.Low, ST a_1.High, IN a_1.First, IN a_1.Last, IN a_1.Records])] : Fo) = some (BO r, ([some (.box [IN a_1.Id, IN a_1.Level, IN a_1.Zone, IN a_1.Page, IN a_1.Pages, ST a_1.Low, ST a_1.High, IN a_1.First, IN a_1.Last, IN a_1.Records])] : Fo)) := by
  unfold p_slices_ContainsFunc_impl_Version_tablesOk_c1 at h
  refine callW (fu := Try.f280) rfl rfl rfl NN ?_
  intro lp cl hlp hcl
  conv => lhs; whnf
  obtain ⟨y1, h_y1, h⟩ := callK_inv h
  rw [cl_eq hcl (L_slices_IndexFunc_impl_Version_tablesOk_c1 a_0 a_1 h_y1)]
  rotate_left
  · show _ = _; kernel_rfl
  · show _ = _; kernel_rfl
  conv => lhs; whnf
  obtain rfl := Option.some.inj h; show _ = _; kernel_rfl

noncomputable def p_cmp_isNaN (a_0 : Int) : Option Bool :=
  some (a_0 != a_0)

set_option maxHeartbeats 4000000 in
theorem L_cmp_isNaN (a_0 : Int) {r : Bool} (h : p_cmp_isNaN a_0 = some r) : callL E 287 [IN a_0] ([] : Fo) = some (BO r, ([] : Fo)) := by
  unfold p_cmp_isNaN at h
  refine callW (fu := Try.f287) rfl rfl rfl NN ?_
  intro lp cl hlp hcl
  conv => lhs; whnf
  obtain rfl := Option.some.inj h; show _ = _; kernel_rfl

noncomputable def p_cmp_Compare (a_0 : Int) (a_1 : Int) : Option Int :=
  callK (p_cmp_isNaN a_0) fun y1 =>
  callK (p_cmp_isNaN a_1) fun y2 =>
  if y1 = true then
    if y2 = true then
      some 0
    else
      some (-1)
  else
    if y2 = true then
      some 1
    else
      if a_0 < a_1 then
        some (-1)
      else
        if a_0 > a_1 then
          some 1
        else
          some 0

set_option maxHeartbeats 4000000 in
theorem L_cmp_Compare (a_0 : Int) (a_1 : Int) {r : Int} (h : p_cmp_Compare a_0 a_1 = some r) : callL E 245 [IN a_0, IN a_1] ([] : Fo) = some (IN r, ([] : Fo)) := by
  unfold p_cmp_Compare at h
  refine callW (fu := Try.f245) rfl rfl rfl NN ?_
  intro lp cl hlp hcl
  conv => lhs; whnf
  obtain ⟨y1, h_y1, h⟩ := callK_inv h
  rw [cl_eq hcl (L_cmp_isNaN a_0 h_y1)]
  rotate_left
  · show _ = _; kernel_rfl
  · show _ = _; kernel_rfl
  conv => lhs; whnf
  obtain ⟨y2, h_y2, h⟩ := callK_inv h
  rw [cl_eq hcl (L_cmp_isNaN a_1 h_y2)]
  rotate_left
  · show _ = _; kernel_rfl
  · show _ = _; kernel_rfl
  conv => lhs; whnf
  cases hb3 : y1
  · replace h := ifF h (booF hb3); conv => lhs; whnf
    cases hb5 : y2
    · replace h := ifF h (booF hb5); conv => lhs; whnf
      cases hb6 : (decide (a_0 < a_1))
      · replace h := ifF h (decF hb6); conv => lhs; whnf
        cases hb7 : (decide (a_0 > a_1))
        · replace h := ifF h (decF hb7); conv => lhs; whnf
          obtain rfl := Option.some.inj h; show _ = _; kernel_rfl
        · replace h := ifT h (decT hb7); conv => lhs; whnf
          obtain rfl := Option.some.inj h; show _ = _; kernel_rfl
      · replace h := ifT h (decT hb6); conv => lhs; whnf
        obtain rfl := Option.some.inj h; show _ = _; kernel_rfl
    · replace h := ifT h hb5; conv => lhs; whnf
      obtain rfl := Option.some.inj h; show _ = _; kernel_rfl
  · replace h := ifT h hb3; conv => lhs; whnf
    cases hb4 : y2
    · replace h := ifF h (booF hb4); conv => lhs; whnf
      obtain rfl := Option.some.inj h; show _ = _; kernel_rfl
    · replace h := ifT h hb4; conv => lhs; whnf
      obtain rfl := Option.some.inj h; show _ = _; kernel_rfl

noncomputable def p_cmp_Or (a_0 : List Int) : Option Int :=
  grd (a_0.length < 4611686018427387904) <|
  forK a_0 (fun (i5 : Nat) x7 (_ : Unit) (nx6 : Unit → Option _) =>
    if ¬ x7 = 0 then
      some x7
    else
      nx6 ()) () (fun (_ : Unit) =>
    some 0)

set_option maxHeartbeats 4000000 in
theorem L_cmp_Or (a_0 : List Int) {r : Int} (h : p_cmp_Or a_0 = some r) : callL E 244 [.d (.arr (a_0.map rI))] ([] : Fo) = some (IN r, ([] : Fo)) := by
  unfold p_cmp_Or at h
  refine callW (fu := Try.f244) rfl rfl rfl NN ?_
  intro lp cl hlp hcl
  conv => lhs; whnf
  try rw [len_of (l := a_0) (r := rI)]
  obtain ⟨hl_i5, h⟩ := grd_inv h
  refine loop_for hlp (l := a_0) hl_i5 (fun (i5 : Nat) (_ : Unit) => ([.dead, .dead, .dead, IN 0, .dead, .dead, .d (.arr (a_0.map rI)), IN (a_0.length : Int), IN (i5 : Int)] ++ List.replicate 9 .dead : List V)) (fun (i5 : Nat) (_ : Unit) => ([] : Fo)) (fun (r : Int) => ((IN r : V), ([] : Fo))) ?_ ?_ () _ (fun kk => by kernel_rfl) h
  · clear h
    rintro next_nx6 nx6 i5 hi_i5 hnx6 ⟨⟩ r h
    try dsimp only at h
    have hn_i5 : i5 < 4611686018427387904 := by omega
    have hx_x7 := get_map rI a_0 i5 hi_i5
    generalize a_0[i5] = x7 at h hx_x7
    have hd_i5 : (decide ((i5 : Int) < (a_0.length : Int))) = true := decide_eq_true (by omega)
    conv => lhs; whnf
    rw [hd_i5]
    conv => lhs; whnf
    try (rw [decide_eq_true hq_x7]; conv => lhs; whnf)
    rw [hx_x7]
    conv => lhs; whnf
    rw [hx_x7]
    conv => lhs; whnf
    cases hb8 : (x7 != 0)
    · replace h := ifF h ((fun h => not_not_intro (bneF h)) hb8); conv => lhs; whnf
      rw [wrap_nat i5 (by have := hn_i5; omega)]
      exact hnx6 _ _ _ _ (fun kk => by kernel_rfl) h
    · replace h := ifT h (bneT hb8); conv => lhs; whnf
      obtain rfl := Option.some.inj h; show _ = _; kernel_rfl
  · clear h
    rintro next_nx6 ⟨⟩ r h
    try dsimp only at h
    have hd_i5 : (decide ((a_0.length : Int) < (a_0.length : Int))) = false := decide_eq_false (by omega)
    conv => lhs; whnf
    rw [hd_i5]
    conv => lhs; whnf
    obtain rfl := Option.some.inj h; show _ = _; kernel_rfl

noncomputable def p_impl_compareRefs (a_0 : TableRef) (a_1 : TableRef) : Option Int :=
  if a_0.Level = a_1.Level then
    if a_0.Level = 0 then
      callK (p_cmp_Compare a_1.Id a_0.Id) fun y3 =>
      some y3
    else
      callK (p_cmp_Compare a_0.Level a_1.Level) fun y4 =>
      callK (p_cmp_Or ([y4, (cmpB a_0.Low a_1.Low)] : List Int)) fun y5 =>
      some y5
  else
    callK (p_cmp_Compare a_0.Level a_1.Level) fun y6 =>
    callK (p_cmp_Or ([y6, (cmpB a_0.Low a_1.Low)] : List Int)) fun y7 =>
    some y7

set_option maxHeartbeats 4000000 in
theorem L_impl_compareRefs (a_0 : TableRef) (a_1 : TableRef) {r : Int} (h : p_impl_compareRefs a_0 a_1 = some r) : callL E 282 [.agg [IN a_0.Id, IN a_0.Level, IN a_0.Zone, IN a_0.Page, IN a_0.Pages, ST a_0.Low, ST a_0.High, IN a_0.First, IN a_0.Last, IN a_0.Records], .agg [IN a_1.Id, IN a_1.Level, IN a_1.Zone, IN a_1.Page, IN a_1.Pages, ST a_1.Low, ST a_1.High, IN a_1.First, IN a_1.Last, IN a_1.Records]] ([] : Fo) = some (IN r, ([] : Fo)) := by
  unfold p_impl_compareRefs at h
  refine callW (fu := Try.f282) rfl rfl rfl NN ?_
  intro lp cl hlp hcl
  conv => lhs; whnf
  cases hb1 : (a_0.Level == a_1.Level)
  · replace h := ifF h (beqF hb1); conv => lhs; whnf
    try (rw [hb1]; conv => lhs; whnf)
    try (rw [hb1]; conv => lhs; whnf)
    try (rw [hb1]; conv => lhs; whnf)
    obtain ⟨y6, h_y6, h⟩ := callK_inv h
    rw [cl_eq hcl (L_cmp_Compare a_0.Level a_1.Level h_y6)]
    rotate_left
    · show _ = _; kernel_rfl
    · show _ = _; kernel_rfl
    conv => lhs; whnf
    rw [cl_eq hcl (f_Compare a_0.Low a_1.Low)]
    rotate_left
    · exact rfl
    · exact rfl
    conv => lhs; whnf
    obtain ⟨y7, h_y7, h⟩ := callK_inv h
    rw [cl_eq hcl (L_cmp_Or ([y6, (cmpB a_0.Low a_1.Low)] : List Int) h_y7)]
    rotate_left
    · show _ = _; kernel_rfl
    · show _ = _; kernel_rfl
    conv => lhs; whnf
    obtain rfl := Option.some.inj h; show _ = _; kernel_rfl
  · replace h := ifT h (beqT hb1); conv => lhs; whnf
    try (rw [hb1]; conv => lhs; whnf)
    try (rw [hb1]; conv => lhs; whnf)
    try (rw [hb1]; conv => lhs; whnf)
    cases hb2 : (a_0.Level == 0)
    · replace h := ifF h (beqF hb2); conv => lhs; whnf
      obtain ⟨y4, h_y4, h⟩ := callK_inv h
      rw [cl_eq hcl (L_cmp_Compare a_0.Level a_1.Level h_y4)]
      rotate_left
      · show _ = _; kernel_rfl
      · show _ = _; kernel_rfl
      conv => lhs; whnf
      rw [cl_eq hcl (f_Compare a_0.Low a_1.Low)]
      rotate_left
      · exact rfl
      · exact rfl
      conv => lhs; whnf
      obtain ⟨y5, h_y5, h⟩ := callK_inv h
      rw [cl_eq hcl (L_cmp_Or ([y4, (cmpB a_0.Low a_1.Low)] : List Int) h_y5)]
      rotate_left
      · show _ = _; kernel_rfl
      · show _ = _; kernel_rfl
      conv => lhs; whnf
      obtain rfl := Option.some.inj h; show _ = _; kernel_rfl
    · replace h := ifT h (beqT hb2); conv => lhs; whnf
      obtain ⟨y3, h_y3, h⟩ := callK_inv h
      rw [cl_eq hcl (L_cmp_Compare a_1.Id a_0.Id h_y3)]
      rotate_left
      · show _ = _; kernel_rfl
      · show _ = _; kernel_rfl
      conv => lhs; whnf
      obtain rfl := Option.some.inj h; show _ = _; kernel_rfl

noncomputable def p_impl_Version_tablesOk (a_0 : Version) : Option Bool :=
  grd (a_0.Tables.length < 4611686018427387904) <|
  forK a_0.Tables (fun (i17 : Nat) x19 (_ : Unit) (nx18 : Unit → Option _) =>
    callK (p_impl_ValidTable x19) fun y20 =>
    if y20 = true then
      if x19.Id ≥ a_0.NextId then
        some false
      else
        if x19.Last > a_0.LogSeq then
          some false
        else
          grd (0 ≤ 0 ∧ 0 ≤ (i17 : Int) ∧ (i17 : Int) ≤ (a_0.Tables.length : Int)) <|
          callK (p_slices_ContainsFunc_impl_Version_tablesOk_c1 ((a_0.Tables.drop (Int.toNat 0)).take (Int.toNat (i17 : Int) - Int.toNat 0)) x19) fun y24 =>
          if y24 = true then
            some false
          else
            if (i17 : Int) = 0 then
              nx18 ()
            else
              getK a_0.Tables (IntKind.i64.wrap ((i17 : Int) - 1)) fun x27 =>
              callK (p_impl_compareRefs x27 x19) fun y28 =>
              if y28 ≥ 0 then
                some false
              else
                if x19.Level > 0 then
                  if x27.Level = x19.Level then
                    if ((Op.bytesLess x27.High.toList x19.Low.toList) || (x27.High.toList == x19.Low.toList)) = true then
                      nx18 ()
                    else
                      some false
                  else
                    nx18 ()
                else
                  nx18 ()
    else
      some false) () (fun (_ : Unit) =>
    some (decide ((a_0.Tables.length : Int) ≤ 16)))

set_option maxHeartbeats 4000000 in
theorem L_impl_Version_tablesOk (a_0 : Version) {r : Bool} (h : p_impl_Version_tablesOk a_0 = some r) : callL E 227 [.agg [IN a_0.NextId, IN a_0.LogZone, IN a_0.LogSeq, .d (.arr (a_0.Tables.map rTableRef))]] ([] : Fo) = some (BO r, ([] : Fo)) := by
  unfold p_impl_Version_tablesOk at h
  refine callW (fu := Try.f227) rfl rfl rfl NN ?_
  intro lp cl hlp hcl
  conv => lhs; whnf
  try rw [len_of (l := a_0.Tables) (r := rTableRef)]
  obtain ⟨hl_i17, h⟩ := grd_inv h
  refine loop_for hlp (l := a_0.Tables) hl_i17 (fun (i17 : Nat) (_ : Unit) => ([.dead, .bp 0 0, .dead, .dead, .dead, .dead, .dead, .d (.arr (a_0.Tables.map rTableRef)), IN (a_0.Tables.length : Int), IN (i17 : Int)] ++ List.replicate 65 .dead : List V)) (fun (i17 : Nat) (_ : Unit) => ([some (.box [IN a_0.NextId, IN a_0.LogZone, IN a_0.LogSeq, .d (.arr (a_0.Tables.map rTableRef))])] : Fo)) (fun (r : Bool) => ((BO r : V), ([] : Fo))) ?_ ?_ () _ (fun kk => by kernel_rfl) h
  · clear h
    rintro next_nx18 nx18 i17 hi_i17 hnx18 ⟨⟩ r h
    try dsimp only at h
    have hn_i17 : i17 < 4611686018427387904 := by omega
    have hx_x19 := get_map rTableRef a_0.Tables i17 hi_i17
    generalize a_0.Tables[i17] = x19 at h hx_x19
    have hd_i17 : (decide ((i17 : Int) < (a_0.Tables.length : Int))) = true := decide_eq_true (by omega)
    conv => lhs; whnf
    rw [hd_i17]
    conv => lhs; whnf
    try (rw [decide_eq_true hq_x19]; conv => lhs; whnf)
    rw [hx_x19]
    conv => lhs; whnf
    rw [hx_x19]
    conv => lhs; whnf
    obtain ⟨y20, h_y20, h⟩ := callK_inv h
    rw [cl_eq hcl (L_impl_ValidTable x19 h_y20)]
    rotate_left
    · show _ = _; kernel_rfl
    · show _ = _; kernel_rfl
    conv => lhs; whnf
    cases hb21 : y20
    · replace h := ifF h (booF hb21); conv => lhs; whnf
      try (rw [hb21]; conv => lhs; whnf)
      try (rw [hb21]; conv => lhs; whnf)
      try (rw [hb21]; conv => lhs; whnf)
      try (rw [hb21]; conv => lhs; whnf)
      try (rw [hb21]; conv => lhs; whnf)
      obtain rfl := Option.some.inj h; show _ = _; kernel_rfl
    · replace h := ifT h hb21; conv => lhs; whnf
      try (rw [hb21]; conv => lhs; whnf)
      try (rw [hb21]; conv => lhs; whnf)
      try (rw [hb21]; conv => lhs; whnf)
      try (rw [hb21]; conv => lhs; whnf)
      try (rw [hb21]; conv => lhs; whnf)
      cases hb22 : (decide (x19.Id ≥ a_0.NextId))
      · replace h := ifF h (decF hb22); conv => lhs; whnf
        try (rw [hb22]; conv => lhs; whnf)
        try (rw [hb22]; conv => lhs; whnf)
        try (rw [hb22]; conv => lhs; whnf)
        try (rw [hb22]; conv => lhs; whnf)
        try (rw [hb22]; conv => lhs; whnf)
        cases hb23 : (decide (x19.Last > a_0.LogSeq))
        · replace h := ifF h (decF hb23); conv => lhs; whnf
          try (rw [hb23]; conv => lhs; whnf)
          try (rw [hb23]; conv => lhs; whnf)
          try (rw [hb23]; conv => lhs; whnf)
          obtain ⟨hg33, h⟩ := grd_inv h
          try (rw [allLen_map rTableRef _ rTableRef_len]; conv => lhs; whnf)
          try rw [List.length_map]
          try (rw [decide_eq_true hg33.1]; conv => lhs; whnf)
          try (rw [decide_eq_true hg33.2.1]; conv => lhs; whnf)
          try (rw [decide_eq_true hg33.2.2])
          conv => lhs; whnf
          try rw [cut_of (r := rTableRef) (l := a_0.Tables)]
          try (rw [hb23]; conv => lhs; whnf)
          try (rw [hb23]; conv => lhs; whnf)
          obtain ⟨y24, h_y24, h⟩ := callK_inv h
          rw [cl_eq hcl (L_slices_ContainsFunc_impl_Version_tablesOk_c1 ((a_0.Tables.drop (Int.toNat 0)).take (Int.toNat (i17 : Int) - Int.toNat 0)) x19 h_y24)]
          rotate_left
          · show _ = _; kernel_rfl
          · show _ = _; kernel_rfl
          conv => lhs; whnf
          try (rw [hb23]; conv => lhs; whnf)
          cases hb25 : y24
          · replace h := ifF h (booF hb25); conv => lhs; whnf
            cases hb26 : ((i17 : Int) == 0)
            · replace h := ifF h (beqF hb26); conv => lhs; whnf
              obtain ⟨x27, hq_x27, hx_x27', h⟩ := getK_inv h
              have hx_x27 := get_of (r := rTableRef) hx_x27'
              try (rw [decide_eq_true hq_x27]; conv => lhs; whnf)
              rw [hx_x27]
              conv => lhs; whnf
              rw [hx_x27]
              conv => lhs; whnf
              obtain ⟨y28, h_y28, h⟩ := callK_inv h
              rw [cl_eq hcl (L_impl_compareRefs x27 x19 h_y28)]
              rotate_left
              · show _ = _; kernel_rfl
              · show _ = _; kernel_rfl
              conv => lhs; whnf
              cases hb29 : (decide (y28 ≥ 0))
              · replace h := ifF h (decF hb29); conv => lhs; whnf
                try (rw [hb29]; conv => lhs; whnf)
                try (rw [hb29]; conv => lhs; whnf)
                try (rw [hb29]; conv => lhs; whnf)
                cases hb30 : (decide (x19.Level > 0))
                · replace h := ifF h (decF hb30); conv => lhs; whnf
                  try (rw [hb30]; conv => lhs; whnf)
                  try (rw [hb30]; conv => lhs; whnf)
                  try (rw [hb30]; conv => lhs; whnf)
                  try (rw [hb30]; conv => lhs; whnf)
                  try (rw [hb29]; conv => lhs; whnf)
                  try (rw [hb30]; conv => lhs; whnf)
                  try (rw [hb29]; conv => lhs; whnf)
                  try (rw [hb29]; conv => lhs; whnf)
                  try (rw [hb29]; conv => lhs; whnf)
                  rw [wrap_nat i17 (by have := hn_i17; omega)]
                  exact hnx18 _ _ _ _ (fun kk => by kernel_rfl) h
                · replace h := ifT h (decT hb30); conv => lhs; whnf
                  try (rw [hb30]; conv => lhs; whnf)
                  try (rw [hb30]; conv => lhs; whnf)
                  try (rw [hb30]; conv => lhs; whnf)
                  try (rw [hb30]; conv => lhs; whnf)
                  try (rw [hb29]; conv => lhs; whnf)
                  try (rw [hb30]; conv => lhs; whnf)
                  try (rw [hb29]; conv => lhs; whnf)
                  cases hb31 : (x27.Level == x19.Level)
                  · replace h := ifF h (beqF hb31); conv => lhs; whnf
                    try (rw [hb31]; conv => lhs; whnf)
                    try (rw [hb31]; conv => lhs; whnf)
                    try (rw [hb31]; conv => lhs; whnf)
                    try (rw [hb31]; conv => lhs; whnf)
                    try (rw [hb29]; conv => lhs; whnf)
                    try (rw [hb31]; conv => lhs; whnf)
                    try (rw [hb29]; conv => lhs; whnf)
                    rw [wrap_nat i17 (by have := hn_i17; omega)]
                    exact hnx18 _ _ _ _ (fun kk => by kernel_rfl) h
                  · replace h := ifT h (beqT hb31); conv => lhs; whnf
                    try (rw [hb31]; conv => lhs; whnf)
                    try (rw [hb31]; conv => lhs; whnf)
                    try (rw [hb31]; conv => lhs; whnf)
                    try (rw [hb31]; conv => lhs; whnf)
                    try (rw [hb29]; conv => lhs; whnf)
                    try (rw [hb31]; conv => lhs; whnf)
                    try (rw [hb29]; conv => lhs; whnf)
                    cases hb32 : ((Op.bytesLess x27.High.toList x19.Low.toList) || (x27.High.toList == x19.Low.toList))
                    · replace h := ifF h (booF hb32); conv => lhs; whnf
                      obtain rfl := Option.some.inj h; show _ = _; kernel_rfl
                    · replace h := ifT h hb32; conv => lhs; whnf
                      rw [wrap_nat i17 (by have := hn_i17; omega)]
                      exact hnx18 _ _ _ _ (fun kk => by kernel_rfl) h
              · replace h := ifT h (decT hb29); conv => lhs; whnf
                try (rw [hb29]; conv => lhs; whnf)
                try (rw [hb29]; conv => lhs; whnf)
                try (rw [hb29]; conv => lhs; whnf)
                try (rw [hb29]; conv => lhs; whnf)
                try (rw [hb29]; conv => lhs; whnf)
                try (rw [hb29]; conv => lhs; whnf)
                try (rw [hb29]; conv => lhs; whnf)
                obtain rfl := Option.some.inj h; show _ = _; kernel_rfl
            · replace h := ifT h (beqT hb26); conv => lhs; whnf
              rw [wrap_nat i17 (by have := hn_i17; omega)]
              exact hnx18 _ _ _ _ (fun kk => by kernel_rfl) h
          · replace h := ifT h hb25; conv => lhs; whnf
            obtain rfl := Option.some.inj h; show _ = _; kernel_rfl
        · replace h := ifT h (decT hb23); conv => lhs; whnf
          try (rw [hb23]; conv => lhs; whnf)
          try (rw [hb23]; conv => lhs; whnf)
          try (rw [hb23]; conv => lhs; whnf)
          try (rw [hb23]; conv => lhs; whnf)
          try (rw [hb23]; conv => lhs; whnf)
          try (rw [hb23]; conv => lhs; whnf)
          obtain rfl := Option.some.inj h; show _ = _; kernel_rfl
      · replace h := ifT h (decT hb22); conv => lhs; whnf
        try (rw [hb22]; conv => lhs; whnf)
        try (rw [hb22]; conv => lhs; whnf)
        try (rw [hb22]; conv => lhs; whnf)
        try (rw [hb22]; conv => lhs; whnf)
        try (rw [hb22]; conv => lhs; whnf)
        obtain rfl := Option.some.inj h; show _ = _; kernel_rfl
  · clear h
    rintro next_nx18 ⟨⟩ r h
    try dsimp only at h
    have hd_i17 : (decide ((a_0.Tables.length : Int) < (a_0.Tables.length : Int))) = false := decide_eq_false (by omega)
    conv => lhs; whnf
    rw [hd_i17]
    conv => lhs; whnf
    try rw [len_of (l := a_0.Tables) (r := rTableRef)]
    obtain rfl := Option.some.inj h; show _ = _; kernel_rfl

noncomputable def p_impl_ValidVersion (a_0 : Version) : Option Bool :=
  if (inR a_0.NextId 1 1000000) = true then
    if (inR a_0.LogZone 0 11) = true then
      if (inR a_0.LogSeq 0 1000000) = true then
        callK (p_impl_Version_tablesOk a_0) fun y4 =>
        some y4
      else
        some false
    else
      some false
  else
    some false

set_option maxHeartbeats 4000000 in
theorem L_impl_ValidVersion (a_0 : Version) {r : Bool} (h : p_impl_ValidVersion a_0 = some r) : callL E 136 [.agg [IN a_0.NextId, IN a_0.LogZone, IN a_0.LogSeq, .d (.arr (a_0.Tables.map rTableRef))]] ([] : Fo) = some (BO r, ([] : Fo)) := by
  unfold p_impl_ValidVersion at h
  refine callW (fu := Try.f136) rfl rfl rfl NN ?_
  intro lp cl hlp hcl
  conv => lhs; whnf
  rw [cl_eq hcl (L_impl_within a_0.NextId 1 1000000 (pl_within a_0.NextId 1 1000000))]
  rotate_left
  · show _ = _; kernel_rfl
  · show _ = _; kernel_rfl
  conv => lhs; whnf
  cases hb1 : (inR a_0.NextId 1 1000000)
  · replace h := ifF h (booF hb1); conv => lhs; whnf
    try (rw [hb1]; conv => lhs; whnf)
    try (rw [hb1]; conv => lhs; whnf)
    try (rw [hb1]; conv => lhs; whnf)
    obtain rfl := Option.some.inj h; show _ = _; kernel_rfl
  · replace h := ifT h hb1; conv => lhs; whnf
    try (rw [hb1]; conv => lhs; whnf)
    try (rw [hb1]; conv => lhs; whnf)
    rw [cl_eq hcl (L_impl_within a_0.LogZone 0 11 (pl_within a_0.LogZone 0 11))]
    rotate_left
    · show _ = _; kernel_rfl
    · show _ = _; kernel_rfl
    conv => lhs; whnf
    try (rw [hb1]; conv => lhs; whnf)
    cases hb2 : (inR a_0.LogZone 0 11)
    · replace h := ifF h (booF hb2); conv => lhs; whnf
      try (rw [hb2]; conv => lhs; whnf)
      try (rw [hb2]; conv => lhs; whnf)
      try (rw [hb2]; conv => lhs; whnf)
      obtain rfl := Option.some.inj h; show _ = _; kernel_rfl
    · replace h := ifT h hb2; conv => lhs; whnf
      try (rw [hb2]; conv => lhs; whnf)
      try (rw [hb2]; conv => lhs; whnf)
      rw [cl_eq hcl (L_impl_within a_0.LogSeq 0 1000000 (pl_within a_0.LogSeq 0 1000000))]
      rotate_left
      · show _ = _; kernel_rfl
      · show _ = _; kernel_rfl
      conv => lhs; whnf
      try (rw [hb2]; conv => lhs; whnf)
      cases hb3 : (inR a_0.LogSeq 0 1000000)
      · replace h := ifF h (booF hb3); conv => lhs; whnf
        try (rw [hb3]; conv => lhs; whnf)
        try (rw [hb3]; conv => lhs; whnf)
        obtain rfl := Option.some.inj h; show _ = _; kernel_rfl
      · replace h := ifT h hb3; conv => lhs; whnf
        try (rw [hb3]; conv => lhs; whnf)
        obtain ⟨y4, h_y4, h⟩ := callK_inv h
        rw [cl_eq hcl (L_impl_Version_tablesOk a_0 h_y4)]
        rotate_left
        · show _ = _; kernel_rfl
        · show _ = _; kernel_rfl
        conv => lhs; whnf
        try (rw [hb3]; conv => lhs; whnf)
        obtain rfl := Option.some.inj h; show _ = _; kernel_rfl

noncomputable def p_impl_DecodeVersion (a_0 : ByteArray) : Option (Int × Int × Int × Bool × (List TableRef)) :=
  callK (p_strings_CutPrefix a_0 (⟨#[1]⟩ : ByteArray)) fun y1 =>
  callK (p_impl_reader_number (⟨y1.1, false⟩ : Sreader)) fun y2 =>
  callK (p_impl_reader_number y2.2) fun y3 =>
  callK (p_impl_reader_number y3.2) fun y4 =>
  callK (p_impl_reader_refs y4.2) fun y5 =>
  if y1.2 = true then
    callK (p_impl_reader_done y5.1) fun y7 =>
    if y7.1 = true then
      callK (p_impl_ValidVersion (⟨y2.1, y3.1, y4.1, y5.2⟩ : Version)) fun y9 =>
      if y9 = true then
        some (y2.1, y3.1, y4.1, true, y5.2)
      else
        some (0, 0, 0, false, ([] : List TableRef))
    else
      some (0, 0, 0, false, ([] : List TableRef))
  else
    some (0, 0, 0, false, ([] : List TableRef))

set_option maxHeartbeats 4000000 in
theorem L_impl_DecodeVersion (a_0 : ByteArray) {r : (Int × Int × Int × Bool × (List TableRef))} (h : p_impl_DecodeVersion a_0 = some r) : callL E 45 [ST a_0] ([] : Fo) = some (.tup [.agg [IN r.1, IN r.2.1, IN r.2.2.1, .sl 0], BO r.2.2.2.1], ([some (.arr 231 10 (r.2.2.2.2.map rTableRef))] : Fo)) := by
  unfold p_impl_DecodeVersion at h
  refine callW (fu := Try.f45) rfl rfl rfl NN ?_
  intro lp cl hlp hcl
  conv => lhs; whnf
  obtain ⟨y1, h_y1, h⟩ := callK_inv h
  rw [cl_eq hcl (L_strings_CutPrefix a_0 (⟨#[1]⟩ : ByteArray) h_y1)]
  rotate_left
  · show _ = _; kernel_rfl
  · show _ = _; kernel_rfl
  conv => lhs; whnf
  obtain ⟨y2, h_y2, h⟩ := callK_inv h
  rw [cl_eq hcl (L_impl_reader_number (⟨y1.1, false⟩ : Sreader) h_y2)]
  rotate_left
  · show _ = _; kernel_rfl
  · show _ = _; kernel_rfl
  conv => lhs; whnf
  obtain ⟨y3, h_y3, h⟩ := callK_inv h
  rw [cl_eq hcl (L_impl_reader_number y2.2 h_y3)]
  rotate_left
  · show _ = _; kernel_rfl
  · show _ = _; kernel_rfl
  conv => lhs; whnf
  obtain ⟨y4, h_y4, h⟩ := callK_inv h
  rw [cl_eq hcl (L_impl_reader_number y3.2 h_y4)]
  rotate_left
  · show _ = _; kernel_rfl
  · show _ = _; kernel_rfl
  conv => lhs; whnf
  obtain ⟨y5, h_y5, h⟩ := callK_inv h
  rw [cl_eq hcl (L_impl_reader_refs y4.2 h_y5)]
  rotate_left
  · show _ = _; kernel_rfl
  · show _ = _; kernel_rfl
  conv => lhs; whnf
  cases hb6 : y1.2
  · replace h := ifF h (booF hb6); conv => lhs; whnf
    try (rw [hb6]; conv => lhs; whnf)
    try (rw [hb6]; conv => lhs; whnf)
    try (rw [hb6]; conv => lhs; whnf)
    obtain rfl := Option.some.inj h; show _ = _; kernel_rfl
  · replace h := ifT h hb6; conv => lhs; whnf
    try (rw [hb6]; conv => lhs; whnf)
    obtain ⟨y7, h_y7, h⟩ := callK_inv h
    rw [cl_eq hcl (L_impl_reader_done y5.1 h_y7)]
    rotate_left
    · show _ = _; kernel_rfl
    · show _ = _; kernel_rfl
    conv => lhs; whnf
    try (rw [hb6]; conv => lhs; whnf)
    try (rw [hb6]; conv => lhs; whnf)
    cases hb8 : y7.1
    · replace h := ifF h (booF hb8); conv => lhs; whnf
      try (rw [hb8]; conv => lhs; whnf)
      try (rw [hb8]; conv => lhs; whnf)
      try (rw [hb8]; conv => lhs; whnf)
      obtain rfl := Option.some.inj h; show _ = _; kernel_rfl
    · replace h := ifT h hb8; conv => lhs; whnf
      try (rw [hb8]; conv => lhs; whnf)
      obtain ⟨y9, h_y9, h⟩ := callK_inv h
      rw [cl_eq hcl (L_impl_ValidVersion (⟨y2.1, y3.1, y4.1, y5.2⟩ : Version) h_y9)]
      rotate_left
      · show _ = _; kernel_rfl
      · show _ = _; kernel_rfl
      conv => lhs; whnf
      try (rw [hb8]; conv => lhs; whnf)
      try (rw [hb8]; conv => lhs; whnf)
      cases hb10 : y9
      · replace h := ifF h (booF hb10); conv => lhs; whnf
        obtain rfl := Option.some.inj h; show _ = _; kernel_rfl
      · replace h := ifT h hb10; conv => lhs; whnf
        obtain rfl := Option.some.inj h; show _ = _; kernel_rfl

noncomputable def p_laws_eqTableRef (a_0 : TableRef) (a_1 : TableRef) : Option Bool :=
  if ¬ a_0.Id = a_1.Id then
    some false
  else
    if ¬ a_0.Level = a_1.Level then
      some false
    else
      if ¬ a_0.Zone = a_1.Zone then
        some false
      else
        if ¬ a_0.Page = a_1.Page then
          some false
        else
          if ¬ a_0.Pages = a_1.Pages then
            some false
          else
            if (a_0.Low.toList == a_1.Low.toList) = true then
              if (a_0.High.toList == a_1.High.toList) = true then
                if ¬ a_0.First = a_1.First then
                  some false
                else
                  if ¬ a_0.Last = a_1.Last then
                    some false
                  else
                    if ¬ a_0.Records = a_1.Records then
                      some false
                    else
                      some true
              else
                some false
            else
              some false

set_option maxHeartbeats 4000000 in
theorem L_laws_eqTableRef (a_0 : TableRef) (a_1 : TableRef) {r : Bool} (h : p_laws_eqTableRef a_0 a_1 = some r) : callL E 225 [.agg [IN a_0.Id, IN a_0.Level, IN a_0.Zone, IN a_0.Page, IN a_0.Pages, ST a_0.Low, ST a_0.High, IN a_0.First, IN a_0.Last, IN a_0.Records], .agg [IN a_1.Id, IN a_1.Level, IN a_1.Zone, IN a_1.Page, IN a_1.Pages, ST a_1.Low, ST a_1.High, IN a_1.First, IN a_1.Last, IN a_1.Records]] ([] : Fo) = some (BO r, ([] : Fo)) := by
  unfold p_laws_eqTableRef at h
  refine callW (fu := Try.f225) rfl rfl rfl NN ?_
  intro lp cl hlp hcl
  conv => lhs; whnf
  cases hb1 : (a_0.Id != a_1.Id)
  · replace h := ifF h ((fun h => not_not_intro (bneF h)) hb1); conv => lhs; whnf
    cases hb2 : (a_0.Level != a_1.Level)
    · replace h := ifF h ((fun h => not_not_intro (bneF h)) hb2); conv => lhs; whnf
      cases hb3 : (a_0.Zone != a_1.Zone)
      · replace h := ifF h ((fun h => not_not_intro (bneF h)) hb3); conv => lhs; whnf
        cases hb4 : (a_0.Page != a_1.Page)
        · replace h := ifF h ((fun h => not_not_intro (bneF h)) hb4); conv => lhs; whnf
          cases hb5 : (a_0.Pages != a_1.Pages)
          · replace h := ifF h ((fun h => not_not_intro (bneF h)) hb5); conv => lhs; whnf
            cases hb6 : (a_0.Low.toList == a_1.Low.toList)
            · replace h := ifF h (booF hb6); conv => lhs; whnf
              obtain rfl := Option.some.inj h; show _ = _; kernel_rfl
            · replace h := ifT h hb6; conv => lhs; whnf
              cases hb7 : (a_0.High.toList == a_1.High.toList)
              · replace h := ifF h (booF hb7); conv => lhs; whnf
                obtain rfl := Option.some.inj h; show _ = _; kernel_rfl
              · replace h := ifT h hb7; conv => lhs; whnf
                cases hb8 : (a_0.First != a_1.First)
                · replace h := ifF h ((fun h => not_not_intro (bneF h)) hb8); conv => lhs; whnf
                  cases hb9 : (a_0.Last != a_1.Last)
                  · replace h := ifF h ((fun h => not_not_intro (bneF h)) hb9); conv => lhs; whnf
                    cases hb10 : (a_0.Records != a_1.Records)
                    · replace h := ifF h ((fun h => not_not_intro (bneF h)) hb10); conv => lhs; whnf
                      obtain rfl := Option.some.inj h; show _ = _; kernel_rfl
                    · replace h := ifT h (bneT hb10); conv => lhs; whnf
                      obtain rfl := Option.some.inj h; show _ = _; kernel_rfl
                  · replace h := ifT h (bneT hb9); conv => lhs; whnf
                    obtain rfl := Option.some.inj h; show _ = _; kernel_rfl
                · replace h := ifT h (bneT hb8); conv => lhs; whnf
                  obtain rfl := Option.some.inj h; show _ = _; kernel_rfl
          · replace h := ifT h (bneT hb5); conv => lhs; whnf
            obtain rfl := Option.some.inj h; show _ = _; kernel_rfl
        · replace h := ifT h (bneT hb4); conv => lhs; whnf
          obtain rfl := Option.some.inj h; show _ = _; kernel_rfl
      · replace h := ifT h (bneT hb3); conv => lhs; whnf
        obtain rfl := Option.some.inj h; show _ = _; kernel_rfl
    · replace h := ifT h (bneT hb2); conv => lhs; whnf
      obtain rfl := Option.some.inj h; show _ = _; kernel_rfl
  · replace h := ifT h (bneT hb1); conv => lhs; whnf
    obtain rfl := Option.some.inj h; show _ = _; kernel_rfl

noncomputable def p_laws_eqTableRefS (a_0 : List TableRef) (a_1 : List TableRef) : Option Bool :=
  if ¬ (a_0.length : Int) = (a_1.length : Int) then
    some false
  else
    grd (a_0.length < 4611686018427387904) <|
    forK a_0 (fun (i8 : Nat) x10 (_ : Unit) (nx9 : Unit → Option _) =>
      getK a_1 (i8 : Int) fun x11 =>
      callK (p_laws_eqTableRef x10 x11) fun y12 =>
      if y12 = true then
        nx9 ()
      else
        some false) () (fun (_ : Unit) =>
      some true)

set_option maxHeartbeats 4000000 in
theorem L_laws_eqTableRefS (a_0 : List TableRef) (a_1 : List TableRef) {r : Bool} (h : p_laws_eqTableRefS a_0 a_1 = some r) : callL E 129 [.d (.arr (a_0.map rTableRef)), .d (.arr (a_1.map rTableRef))] ([] : Fo) = some (BO r, ([] : Fo)) := by
  unfold p_laws_eqTableRefS at h
  refine callW (fu := Try.f129) rfl rfl rfl NN ?_
  intro lp cl hlp hcl
  conv => lhs; whnf
  try rw [len_of (l := a_0) (r := rTableRef)]
  try rw [len_of (l := a_1) (r := rTableRef)]
  cases hb1 : ((a_0.length : Int) != (a_1.length : Int))
  · replace h := ifF h ((fun h => not_not_intro (bneF h)) hb1); conv => lhs; whnf
    obtain ⟨hl_i8, h⟩ := grd_inv h
    refine loop_for hlp (l := a_0) hl_i8 (fun (i8 : Nat) (_ : Unit) => ([.d (.arr (a_0.map rTableRef)), .d (.arr (a_1.map rTableRef)), .dead, .dead, .dead, IN (i8 : Int)] ++ List.replicate 21 .dead : List V)) (fun (i8 : Nat) (_ : Unit) => ([] : Fo)) (fun (r : Bool) => ((BO r : V), ([] : Fo))) ?_ ?_ () _ (fun kk => by kernel_rfl) h
    · clear h
      rintro next_nx9 nx9 i8 hi_i8 hnx9 ⟨⟩ r h
      try dsimp only at h
      have hn_i8 : i8 < 4611686018427387904 := by omega
      have hx_x10 := get_map rTableRef a_0 i8 hi_i8
      generalize a_0[i8] = x10 at h hx_x10
      have hd_i8 : (decide ((i8 : Int) < (a_0.length : Int))) = true := decide_eq_true (by omega)
      conv => lhs; whnf
      try rw [len_of (l := a_0) (r := rTableRef)]
      rw [hd_i8]
      conv => lhs; whnf
      try (rw [decide_eq_true hq_x10]; conv => lhs; whnf)
      rw [hx_x10]
      conv => lhs; whnf
      rw [hx_x10]
      conv => lhs; whnf
      obtain ⟨x11, hq_x11, hx_x11', h⟩ := getK_inv h
      have hx_x11 := get_of (r := rTableRef) hx_x11'
      try (rw [decide_eq_true hq_x11]; conv => lhs; whnf)
      rw [hx_x11]
      conv => lhs; whnf
      rw [hx_x11]
      conv => lhs; whnf
      obtain ⟨y12, h_y12, h⟩ := callK_inv h
      rw [cl_eq hcl (L_laws_eqTableRef x10 x11 h_y12)]
      rotate_left
      · show _ = _; kernel_rfl
      · show _ = _; kernel_rfl
      conv => lhs; whnf
      cases hb13 : y12
      · replace h := ifF h (booF hb13); conv => lhs; whnf
        obtain rfl := Option.some.inj h; show _ = _; kernel_rfl
      · replace h := ifT h hb13; conv => lhs; whnf
        rw [wrap_nat i8 (by have := hn_i8; omega)]
        exact hnx9 _ _ _ _ (fun kk => by kernel_rfl) h
    · clear h
      rintro next_nx9 ⟨⟩ r h
      try dsimp only at h
      have hd_i8 : (decide ((a_0.length : Int) < (a_0.length : Int))) = false := decide_eq_false (by omega)
      conv => lhs; whnf
      try rw [len_of (l := a_0) (r := rTableRef)]
      rw [hd_i8]
      conv => lhs; whnf
      obtain rfl := Option.some.inj h; show _ = _; kernel_rfl
  · replace h := ifT h (bneT hb1); conv => lhs; whnf
    obtain rfl := Option.some.inj h; show _ = _; kernel_rfl

noncomputable def p_laws_eqVersion (a_0 : Version) (a_1 : Version) : Option Bool :=
  if ¬ a_0.NextId = a_1.NextId then
    some false
  else
    if ¬ a_0.LogZone = a_1.LogZone then
      some false
    else
      if ¬ a_0.LogSeq = a_1.LogSeq then
        some false
      else
        callK (p_laws_eqTableRefS a_0.Tables a_1.Tables) fun y4 =>
        if y4 = true then
          some true
        else
          some false

set_option maxHeartbeats 4000000 in
theorem L_laws_eqVersion (a_0 : Version) (a_1 : Version) {r : Bool} (h : p_laws_eqVersion a_0 a_1 = some r) : callL E 46 [.agg [IN a_0.NextId, IN a_0.LogZone, IN a_0.LogSeq, .d (.arr (a_0.Tables.map rTableRef))], .agg [IN a_1.NextId, IN a_1.LogZone, IN a_1.LogSeq, .d (.arr (a_1.Tables.map rTableRef))]] ([] : Fo) = some (BO r, ([] : Fo)) := by
  unfold p_laws_eqVersion at h
  refine callW (fu := Try.f46) rfl rfl rfl NN ?_
  intro lp cl hlp hcl
  conv => lhs; whnf
  cases hb1 : (a_0.NextId != a_1.NextId)
  · replace h := ifF h ((fun h => not_not_intro (bneF h)) hb1); conv => lhs; whnf
    cases hb2 : (a_0.LogZone != a_1.LogZone)
    · replace h := ifF h ((fun h => not_not_intro (bneF h)) hb2); conv => lhs; whnf
      cases hb3 : (a_0.LogSeq != a_1.LogSeq)
      · replace h := ifF h ((fun h => not_not_intro (bneF h)) hb3); conv => lhs; whnf
        obtain ⟨y4, h_y4, h⟩ := callK_inv h
        rw [cl_eq hcl (L_laws_eqTableRefS a_0.Tables a_1.Tables h_y4)]
        rotate_left
        · show _ = _; kernel_rfl
        · show _ = _; kernel_rfl
        conv => lhs; whnf
        cases hb5 : y4
        · replace h := ifF h (booF hb5); conv => lhs; whnf
          obtain rfl := Option.some.inj h; show _ = _; kernel_rfl
        · replace h := ifT h hb5; conv => lhs; whnf
          obtain rfl := Option.some.inj h; show _ = _; kernel_rfl
      · replace h := ifT h (bneT hb3); conv => lhs; whnf
        obtain rfl := Option.some.inj h; show _ = _; kernel_rfl
    · replace h := ifT h (bneT hb2); conv => lhs; whnf
      obtain rfl := Option.some.inj h; show _ = _; kernel_rfl
  · replace h := ifT h (bneT hb1); conv => lhs; whnf
    obtain rfl := Option.some.inj h; show _ = _; kernel_rfl

noncomputable def p_laws_markText (a_0 : Int) : Option ByteArray :=
  if a_0 ≤ 0 then
    some (⟨#[109, 48]⟩ : ByteArray)
  else
    iterK (fun ((v2, v3) : (Int × ByteArray)) (nx4 : (Int × ByteArray) → Option _) =>
      if v2 > 0 then
        grd (((ByteArray.size (bytesOf ([[.lit (.int .u8 (IntKind.u8.wrap (IntKind.i64.wrap (48 + (Int.tmod v2 10)))))]] : List (List D))) + ByteArray.size v3 : Nat) : Int) ≤ 9223372036854775807) <|
        nx4 ((IntKind.i64.wrap (Int.tdiv v2 10)), ((bytesOf ([[.lit (.int .u8 (IntKind.u8.wrap (IntKind.i64.wrap (48 + (Int.tmod v2 10)))))]] : List (List D))) ++ v3))
      else
        grd (((ByteArray.size (⟨#[109]⟩ : ByteArray) + ByteArray.size v3 : Nat) : Int) ≤ 9223372036854775807) <|
        some ((⟨#[109]⟩ : ByteArray) ++ v3)) NN (a_0, (⟨#[]⟩ : ByteArray))

set_option maxHeartbeats 4000000 in
theorem L_laws_markText (a_0 : Int) {r : ByteArray} (h : p_laws_markText a_0 = some r) : callL E 114 [IN a_0] ([] : Fo) = some (ST r, ([] : Fo)) := by
  unfold p_laws_markText at h
  refine callW (fu := Try.f114) rfl rfl rfl NN ?_
  intro lp cl hlp hcl
  conv => lhs; whnf
  cases hb1 : (decide (a_0 ≤ 0))
  · replace h := ifF h (decF hb1); conv => lhs; whnf
    refine loop_iter hlp (fun ((v2, v3) : (Int × ByteArray)) => ([IN v2, .dead, .dead, ST v3] ++ List.replicate 16 .dead : List V)) (fun ((v2, v3) : (Int × ByteArray)) => ([] : Fo)) (fun (r : ByteArray) => ((ST r : V), ([] : Fo))) ?_ (a_0, (⟨#[]⟩ : ByteArray)) _ (fun kk => by kernel_rfl) h
    clear h
    rintro next_nx4 nx4 hnx4 ⟨v2, v3⟩ r h
    try dsimp only at h
    conv => lhs; whnf
    cases hb5 : (decide (v2 > 0))
    · replace h := ifF h (decF hb5); conv => lhs; whnf
      obtain ⟨hg6, h⟩ := grd_inv h
      rw [cat_run _ _ _ hg6]
      conv => lhs; whnf
      obtain rfl := Option.some.inj h; show _ = _; kernel_rfl
    · replace h := ifT h (decT hb5); conv => lhs; whnf
      try (rw [rem_run _ _ _ 10 (by decide)]; conv => lhs; whnf)
      conv => lhs; whnf
      obtain ⟨hg7, h⟩ := grd_inv h
      rw [cat_run _ _ _ hg7]
      conv => lhs; whnf
      try (rw [quo_run _ _ _ 10 (by decide)]; conv => lhs; whnf)
      conv => lhs; whnf
      exact hnx4 _ _ _ _ (fun kk => by kernel_rfl) h
  · replace h := ifT h (decT hb1); conv => lhs; whnf
    obtain rfl := Option.some.inj h; show _ = _; kernel_rfl

noncomputable def p_laws_markTableRefS (a_0 : Int) (a_1 : List TableRef) : Option (Int × (List TableRef)) :=
  iterK (fun ((v1, v2, v3) : (Int × Int × (List TableRef))) (nx4 : (Int × Int × (List TableRef)) → Option _) =>
    if v2 < (v3.length : Int) then
      getK v3 v2 fun x6 =>
      getK (v3.set (Int.toNat v2) (⟨v1, x6.Level, x6.Zone, x6.Page, x6.Pages, x6.Low, x6.High, x6.First, x6.Last, x6.Records⟩ : TableRef)) v2 fun x7 =>
      getK ((v3.set (Int.toNat v2) (⟨v1, x6.Level, x6.Zone, x6.Page, x6.Pages, x6.Low, x6.High, x6.First, x6.Last, x6.Records⟩ : TableRef)).set (Int.toNat v2) (⟨x7.Id, (IntKind.i64.wrap (v1 + 1)), x7.Zone, x7.Page, x7.Pages, x7.Low, x7.High, x7.First, x7.Last, x7.Records⟩ : TableRef)) v2 fun x8 =>
      getK (((v3.set (Int.toNat v2) (⟨v1, x6.Level, x6.Zone, x6.Page, x6.Pages, x6.Low, x6.High, x6.First, x6.Last, x6.Records⟩ : TableRef)).set (Int.toNat v2) (⟨x7.Id, (IntKind.i64.wrap (v1 + 1)), x7.Zone, x7.Page, x7.Pages, x7.Low, x7.High, x7.First, x7.Last, x7.Records⟩ : TableRef)).set (Int.toNat v2) (⟨x8.Id, x8.Level, (IntKind.i64.wrap ((IntKind.i64.wrap (v1 + 1)) + 1)), x8.Page, x8.Pages, x8.Low, x8.High, x8.First, x8.Last, x8.Records⟩ : TableRef)) v2 fun x9 =>
      getK ((((v3.set (Int.toNat v2) (⟨v1, x6.Level, x6.Zone, x6.Page, x6.Pages, x6.Low, x6.High, x6.First, x6.Last, x6.Records⟩ : TableRef)).set (Int.toNat v2) (⟨x7.Id, (IntKind.i64.wrap (v1 + 1)), x7.Zone, x7.Page, x7.Pages, x7.Low, x7.High, x7.First, x7.Last, x7.Records⟩ : TableRef)).set (Int.toNat v2) (⟨x8.Id, x8.Level, (IntKind.i64.wrap ((IntKind.i64.wrap (v1 + 1)) + 1)), x8.Page, x8.Pages, x8.Low, x8.High, x8.First, x8.Last, x8.Records⟩ : TableRef)).set (Int.toNat v2) (⟨x9.Id, x9.Level, x9.Zone, (IntKind.i64.wrap ((IntKind.i64.wrap ((IntKind.i64.wrap (v1 + 1)) + 1)) + 1)), x9.Pages, x9.Low, x9.High, x9.First, x9.Last, x9.Records⟩ : TableRef)) v2 fun x10 =>
      callK (p_laws_markText (IntKind.i64.wrap ((IntKind.i64.wrap ((IntKind.i64.wrap ((IntKind.i64.wrap ((IntKind.i64.wrap (v1 + 1)) + 1)) + 1)) + 1)) + 1))) fun y11 =>
      getK (((((v3.set (Int.toNat v2) (⟨v1, x6.Level, x6.Zone, x6.Page, x6.Pages, x6.Low, x6.High, x6.First, x6.Last, x6.Records⟩ : TableRef)).set (Int.toNat v2) (⟨x7.Id, (IntKind.i64.wrap (v1 + 1)), x7.Zone, x7.Page, x7.Pages, x7.Low, x7.High, x7.First, x7.Last, x7.Records⟩ : TableRef)).set (Int.toNat v2) (⟨x8.Id, x8.Level, (IntKind.i64.wrap ((IntKind.i64.wrap (v1 + 1)) + 1)), x8.Page, x8.Pages, x8.Low, x8.High, x8.First, x8.Last, x8.Records⟩ : TableRef)).set (Int.toNat v2) (⟨x9.Id, x9.Level, x9.Zone, (IntKind.i64.wrap ((IntKind.i64.wrap ((IntKind.i64.wrap (v1 + 1)) + 1)) + 1)), x9.Pages, x9.Low, x9.High, x9.First, x9.Last, x9.Records⟩ : TableRef)).set (Int.toNat v2) (⟨x10.Id, x10.Level, x10.Zone, x10.Page, (IntKind.i64.wrap ((IntKind.i64.wrap ((IntKind.i64.wrap ((IntKind.i64.wrap (v1 + 1)) + 1)) + 1)) + 1)), x10.Low, x10.High, x10.First, x10.Last, x10.Records⟩ : TableRef)) v2 fun x12 =>
      callK (p_laws_markText (IntKind.i64.wrap ((IntKind.i64.wrap ((IntKind.i64.wrap ((IntKind.i64.wrap ((IntKind.i64.wrap ((IntKind.i64.wrap (v1 + 1)) + 1)) + 1)) + 1)) + 1)) + 1))) fun y13 =>
      getK ((((((v3.set (Int.toNat v2) (⟨v1, x6.Level, x6.Zone, x6.Page, x6.Pages, x6.Low, x6.High, x6.First, x6.Last, x6.Records⟩ : TableRef)).set (Int.toNat v2) (⟨x7.Id, (IntKind.i64.wrap (v1 + 1)), x7.Zone, x7.Page, x7.Pages, x7.Low, x7.High, x7.First, x7.Last, x7.Records⟩ : TableRef)).set (Int.toNat v2) (⟨x8.Id, x8.Level, (IntKind.i64.wrap ((IntKind.i64.wrap (v1 + 1)) + 1)), x8.Page, x8.Pages, x8.Low, x8.High, x8.First, x8.Last, x8.Records⟩ : TableRef)).set (Int.toNat v2) (⟨x9.Id, x9.Level, x9.Zone, (IntKind.i64.wrap ((IntKind.i64.wrap ((IntKind.i64.wrap (v1 + 1)) + 1)) + 1)), x9.Pages, x9.Low, x9.High, x9.First, x9.Last, x9.Records⟩ : TableRef)).set (Int.toNat v2) (⟨x10.Id, x10.Level, x10.Zone, x10.Page, (IntKind.i64.wrap ((IntKind.i64.wrap ((IntKind.i64.wrap ((IntKind.i64.wrap (v1 + 1)) + 1)) + 1)) + 1)), x10.Low, x10.High, x10.First, x10.Last, x10.Records⟩ : TableRef)).set (Int.toNat v2) (⟨x12.Id, x12.Level, x12.Zone, x12.Page, x12.Pages, y11, x12.High, x12.First, x12.Last, x12.Records⟩ : TableRef)) v2 fun x14 =>
      getK (((((((v3.set (Int.toNat v2) (⟨v1, x6.Level, x6.Zone, x6.Page, x6.Pages, x6.Low, x6.High, x6.First, x6.Last, x6.Records⟩ : TableRef)).set (Int.toNat v2) (⟨x7.Id, (IntKind.i64.wrap (v1 + 1)), x7.Zone, x7.Page, x7.Pages, x7.Low, x7.High, x7.First, x7.Last, x7.Records⟩ : TableRef)).set (Int.toNat v2) (⟨x8.Id, x8.Level, (IntKind.i64.wrap ((IntKind.i64.wrap (v1 + 1)) + 1)), x8.Page, x8.Pages, x8.Low, x8.High, x8.First, x8.Last, x8.Records⟩ : TableRef)).set (Int.toNat v2) (⟨x9.Id, x9.Level, x9.Zone, (IntKind.i64.wrap ((IntKind.i64.wrap ((IntKind.i64.wrap (v1 + 1)) + 1)) + 1)), x9.Pages, x9.Low, x9.High, x9.First, x9.Last, x9.Records⟩ : TableRef)).set (Int.toNat v2) (⟨x10.Id, x10.Level, x10.Zone, x10.Page, (IntKind.i64.wrap ((IntKind.i64.wrap ((IntKind.i64.wrap ((IntKind.i64.wrap (v1 + 1)) + 1)) + 1)) + 1)), x10.Low, x10.High, x10.First, x10.Last, x10.Records⟩ : TableRef)).set (Int.toNat v2) (⟨x12.Id, x12.Level, x12.Zone, x12.Page, x12.Pages, y11, x12.High, x12.First, x12.Last, x12.Records⟩ : TableRef)).set (Int.toNat v2) (⟨x14.Id, x14.Level, x14.Zone, x14.Page, x14.Pages, x14.Low, y13, x14.First, x14.Last, x14.Records⟩ : TableRef)) v2 fun x15 =>
      getK ((((((((v3.set (Int.toNat v2) (⟨v1, x6.Level, x6.Zone, x6.Page, x6.Pages, x6.Low, x6.High, x6.First, x6.Last, x6.Records⟩ : TableRef)).set (Int.toNat v2) (⟨x7.Id, (IntKind.i64.wrap (v1 + 1)), x7.Zone, x7.Page, x7.Pages, x7.Low, x7.High, x7.First, x7.Last, x7.Records⟩ : TableRef)).set (Int.toNat v2) (⟨x8.Id, x8.Level, (IntKind.i64.wrap ((IntKind.i64.wrap (v1 + 1)) + 1)), x8.Page, x8.Pages, x8.Low, x8.High, x8.First, x8.Last, x8.Records⟩ : TableRef)).set (Int.toNat v2) (⟨x9.Id, x9.Level, x9.Zone, (IntKind.i64.wrap ((IntKind.i64.wrap ((IntKind.i64.wrap (v1 + 1)) + 1)) + 1)), x9.Pages, x9.Low, x9.High, x9.First, x9.Last, x9.Records⟩ : TableRef)).set (Int.toNat v2) (⟨x10.Id, x10.Level, x10.Zone, x10.Page, (IntKind.i64.wrap ((IntKind.i64.wrap ((IntKind.i64.wrap ((IntKind.i64.wrap (v1 + 1)) + 1)) + 1)) + 1)), x10.Low, x10.High, x10.First, x10.Last, x10.Records⟩ : TableRef)).set (Int.toNat v2) (⟨x12.Id, x12.Level, x12.Zone, x12.Page, x12.Pages, y11, x12.High, x12.First, x12.Last, x12.Records⟩ : TableRef)).set (Int.toNat v2) (⟨x14.Id, x14.Level, x14.Zone, x14.Page, x14.Pages, x14.Low, y13, x14.First, x14.Last, x14.Records⟩ : TableRef)).set (Int.toNat v2) (⟨x15.Id, x15.Level, x15.Zone, x15.Page, x15.Pages, x15.Low, x15.High, (IntKind.i64.wrap ((IntKind.i64.wrap ((IntKind.i64.wrap ((IntKind.i64.wrap ((IntKind.i64.wrap ((IntKind.i64.wrap ((IntKind.i64.wrap (v1 + 1)) + 1)) + 1)) + 1)) + 1)) + 1)) + 1)), x15.Last, x15.Records⟩ : TableRef)) v2 fun x16 =>
      getK (((((((((v3.set (Int.toNat v2) (⟨v1, x6.Level, x6.Zone, x6.Page, x6.Pages, x6.Low, x6.High, x6.First, x6.Last, x6.Records⟩ : TableRef)).set (Int.toNat v2) (⟨x7.Id, (IntKind.i64.wrap (v1 + 1)), x7.Zone, x7.Page, x7.Pages, x7.Low, x7.High, x7.First, x7.Last, x7.Records⟩ : TableRef)).set (Int.toNat v2) (⟨x8.Id, x8.Level, (IntKind.i64.wrap ((IntKind.i64.wrap (v1 + 1)) + 1)), x8.Page, x8.Pages, x8.Low, x8.High, x8.First, x8.Last, x8.Records⟩ : TableRef)).set (Int.toNat v2) (⟨x9.Id, x9.Level, x9.Zone, (IntKind.i64.wrap ((IntKind.i64.wrap ((IntKind.i64.wrap (v1 + 1)) + 1)) + 1)), x9.Pages, x9.Low, x9.High, x9.First, x9.Last, x9.Records⟩ : TableRef)).set (Int.toNat v2) (⟨x10.Id, x10.Level, x10.Zone, x10.Page, (IntKind.i64.wrap ((IntKind.i64.wrap ((IntKind.i64.wrap ((IntKind.i64.wrap (v1 + 1)) + 1)) + 1)) + 1)), x10.Low, x10.High, x10.First, x10.Last, x10.Records⟩ : TableRef)).set (Int.toNat v2) (⟨x12.Id, x12.Level, x12.Zone, x12.Page, x12.Pages, y11, x12.High, x12.First, x12.Last, x12.Records⟩ : TableRef)).set (Int.toNat v2) (⟨x14.Id, x14.Level, x14.Zone, x14.Page, x14.Pages, x14.Low, y13, x14.First, x14.Last, x14.Records⟩ : TableRef)).set (Int.toNat v2) (⟨x15.Id, x15.Level, x15.Zone, x15.Page, x15.Pages, x15.Low, x15.High, (IntKind.i64.wrap ((IntKind.i64.wrap ((IntKind.i64.wrap ((IntKind.i64.wrap ((IntKind.i64.wrap ((IntKind.i64.wrap ((IntKind.i64.wrap (v1 + 1)) + 1)) + 1)) + 1)) + 1)) + 1)) + 1)), x15.Last, x15.Records⟩ : TableRef)).set (Int.toNat v2) (⟨x16.Id, x16.Level, x16.Zone, x16.Page, x16.Pages, x16.Low, x16.High, x16.First, (IntKind.i64.wrap ((IntKind.i64.wrap ((IntKind.i64.wrap ((IntKind.i64.wrap ((IntKind.i64.wrap ((IntKind.i64.wrap ((IntKind.i64.wrap ((IntKind.i64.wrap (v1 + 1)) + 1)) + 1)) + 1)) + 1)) + 1)) + 1)) + 1)), x16.Records⟩ : TableRef)) v2 fun x17 =>
      nx4 ((IntKind.i64.wrap ((IntKind.i64.wrap ((IntKind.i64.wrap ((IntKind.i64.wrap ((IntKind.i64.wrap ((IntKind.i64.wrap ((IntKind.i64.wrap ((IntKind.i64.wrap ((IntKind.i64.wrap ((IntKind.i64.wrap (v1 + 1)) + 1)) + 1)) + 1)) + 1)) + 1)) + 1)) + 1)) + 1)) + 1)), (IntKind.i64.wrap (v2 + 1)), ((((((((((v3.set (Int.toNat v2) (⟨v1, x6.Level, x6.Zone, x6.Page, x6.Pages, x6.Low, x6.High, x6.First, x6.Last, x6.Records⟩ : TableRef)).set (Int.toNat v2) (⟨x7.Id, (IntKind.i64.wrap (v1 + 1)), x7.Zone, x7.Page, x7.Pages, x7.Low, x7.High, x7.First, x7.Last, x7.Records⟩ : TableRef)).set (Int.toNat v2) (⟨x8.Id, x8.Level, (IntKind.i64.wrap ((IntKind.i64.wrap (v1 + 1)) + 1)), x8.Page, x8.Pages, x8.Low, x8.High, x8.First, x8.Last, x8.Records⟩ : TableRef)).set (Int.toNat v2) (⟨x9.Id, x9.Level, x9.Zone, (IntKind.i64.wrap ((IntKind.i64.wrap ((IntKind.i64.wrap (v1 + 1)) + 1)) + 1)), x9.Pages, x9.Low, x9.High, x9.First, x9.Last, x9.Records⟩ : TableRef)).set (Int.toNat v2) (⟨x10.Id, x10.Level, x10.Zone, x10.Page, (IntKind.i64.wrap ((IntKind.i64.wrap ((IntKind.i64.wrap ((IntKind.i64.wrap (v1 + 1)) + 1)) + 1)) + 1)), x10.Low, x10.High, x10.First, x10.Last, x10.Records⟩ : TableRef)).set (Int.toNat v2) (⟨x12.Id, x12.Level, x12.Zone, x12.Page, x12.Pages, y11, x12.High, x12.First, x12.Last, x12.Records⟩ : TableRef)).set (Int.toNat v2) (⟨x14.Id, x14.Level, x14.Zone, x14.Page, x14.Pages, x14.Low, y13, x14.First, x14.Last, x14.Records⟩ : TableRef)).set (Int.toNat v2) (⟨x15.Id, x15.Level, x15.Zone, x15.Page, x15.Pages, x15.Low, x15.High, (IntKind.i64.wrap ((IntKind.i64.wrap ((IntKind.i64.wrap ((IntKind.i64.wrap ((IntKind.i64.wrap ((IntKind.i64.wrap ((IntKind.i64.wrap (v1 + 1)) + 1)) + 1)) + 1)) + 1)) + 1)) + 1)), x15.Last, x15.Records⟩ : TableRef)).set (Int.toNat v2) (⟨x16.Id, x16.Level, x16.Zone, x16.Page, x16.Pages, x16.Low, x16.High, x16.First, (IntKind.i64.wrap ((IntKind.i64.wrap ((IntKind.i64.wrap ((IntKind.i64.wrap ((IntKind.i64.wrap ((IntKind.i64.wrap ((IntKind.i64.wrap ((IntKind.i64.wrap (v1 + 1)) + 1)) + 1)) + 1)) + 1)) + 1)) + 1)) + 1)), x16.Records⟩ : TableRef)).set (Int.toNat v2) (⟨x17.Id, x17.Level, x17.Zone, x17.Page, x17.Pages, x17.Low, x17.High, x17.First, x17.Last, (IntKind.i64.wrap ((IntKind.i64.wrap ((IntKind.i64.wrap ((IntKind.i64.wrap ((IntKind.i64.wrap ((IntKind.i64.wrap ((IntKind.i64.wrap ((IntKind.i64.wrap ((IntKind.i64.wrap (v1 + 1)) + 1)) + 1)) + 1)) + 1)) + 1)) + 1)) + 1)) + 1))⟩ : TableRef)))
    else
      some (v1, v3)) NN (a_0, 0, a_1)

set_option maxHeartbeats 4000000 in
theorem L_laws_markTableRefS (a_0 : Int) (a_1 : List TableRef) {r : (Int × (List TableRef))} (h : p_laws_markTableRefS a_0 a_1 = some r) : callL E 131 [.sl 0, IN a_0] ([some (.arr 231 10 (a_1.map rTableRef))] : Fo) = some (IN r.1, ([some (.arr 231 10 (r.2.map rTableRef))] : Fo)) := by
  unfold p_laws_markTableRefS at h
  refine callW (fu := Try.f131) rfl rfl rfl NN ?_
  intro lp cl hlp hcl
  conv => lhs; whnf
  refine loop_iter hlp (fun ((v1, v2, v3) : (Int × Int × (List TableRef))) => ([.sl 0, IN v1, .dead, .dead, .dead, IN v2] ++ List.replicate 79 .dead : List V)) (fun ((v1, v2, v3) : (Int × Int × (List TableRef))) => ([some (.arr 231 10 (v3.map rTableRef))] : Fo)) (fun (r : (Int × (List TableRef))) => ((IN r.1 : V), ([some (.arr 231 10 (r.2.map rTableRef))] : Fo))) ?_ (a_0, 0, a_1) _ (fun kk => by kernel_rfl) h
  clear h
  rintro next_nx4 nx4 hnx4 ⟨v1, v2, v3⟩ r h
  try dsimp only at h
  conv => lhs; whnf
  try rw [len_of (l := v3) (r := rTableRef)]
  cases hb5 : (decide (v2 < (v3.length : Int)))
  · replace h := ifF h (decF hb5); conv => lhs; whnf
    obtain rfl := Option.some.inj h; show _ = _; kernel_rfl
  · replace h := ifT h (decT hb5); conv => lhs; whnf
    obtain ⟨x6, hq_x6, hx_x6', h⟩ := getK_inv h
    have hx_x6 := get_of (r := rTableRef) hx_x6'
    try (rw [decide_eq_true hq_x6]; conv => lhs; whnf)
    rw [hx_x6]
    conv => lhs; whnf
    rw [hx_x6]
    conv => lhs; whnf
    first | (rw [map_set_of (r := rTableRef) (l := v3) (x := (⟨v1, x6.Level, x6.Zone, x6.Page, x6.Pages, x6.Low, x6.High, x6.First, x6.Last, x6.Records⟩ : TableRef)) ?hh]; case hh => exact rfl) | skip
    obtain ⟨x7, hq_x7, hx_x7', h⟩ := getK_inv h
    have hx_x7 := get_of (r := rTableRef) hx_x7'
    try (rw [decide_eq_true hq_x7]; conv => lhs; whnf)
    rw [hx_x7]
    conv => lhs; whnf
    rw [hx_x7]
    conv => lhs; whnf
    first | (rw [map_set_of (r := rTableRef) (l := (v3.set (Int.toNat v2) (⟨v1, x6.Level, x6.Zone, x6.Page, x6.Pages, x6.Low, x6.High, x6.First, x6.Last, x6.Records⟩ : TableRef))) (x := (⟨x7.Id, (IntKind.i64.wrap (v1 + 1)), x7.Zone, x7.Page, x7.Pages, x7.Low, x7.High, x7.First, x7.Last, x7.Records⟩ : TableRef)) ?hh]; case hh => exact rfl) | skip
    obtain ⟨x8, hq_x8, hx_x8', h⟩ := getK_inv h
    have hx_x8 := get_of (r := rTableRef) hx_x8'
    try (rw [decide_eq_true hq_x8]; conv => lhs; whnf)
    rw [hx_x8]
    conv => lhs; whnf
    rw [hx_x8]
    conv => lhs; whnf
    first | (rw [map_set_of (r := rTableRef) (l := ((v3.set (Int.toNat v2) (⟨v1, x6.Level, x6.Zone, x6.Page, x6.Pages, x6.Low, x6.High, x6.First, x6.Last, x6.Records⟩ : TableRef)).set (Int.toNat v2) (⟨x7.Id, (IntKind.i64.wrap (v1 + 1)), x7.Zone, x7.Page, x7.Pages, x7.Low, x7.High, x7.First, x7.Last, x7.Records⟩ : TableRef))) (x := (⟨x8.Id, x8.Level, (IntKind.i64.wrap ((IntKind.i64.wrap (v1 + 1)) + 1)), x8.Page, x8.Pages, x8.Low, x8.High, x8.First, x8.Last, x8.Records⟩ : TableRef)) ?hh]; case hh => exact rfl) | skip
    obtain ⟨x9, hq_x9, hx_x9', h⟩ := getK_inv h
    have hx_x9 := get_of (r := rTableRef) hx_x9'
    try (rw [decide_eq_true hq_x9]; conv => lhs; whnf)
    rw [hx_x9]
    conv => lhs; whnf
    rw [hx_x9]
    conv => lhs; whnf
    first | (rw [map_set_of (r := rTableRef) (l := (((v3.set (Int.toNat v2) (⟨v1, x6.Level, x6.Zone, x6.Page, x6.Pages, x6.Low, x6.High, x6.First, x6.Last, x6.Records⟩ : TableRef)).set (Int.toNat v2) (⟨x7.Id, (IntKind.i64.wrap (v1 + 1)), x7.Zone, x7.Page, x7.Pages, x7.Low, x7.High, x7.First, x7.Last, x7.Records⟩ : TableRef)).set (Int.toNat v2) (⟨x8.Id, x8.Level, (IntKind.i64.wrap ((IntKind.i64.wrap (v1 + 1)) + 1)), x8.Page, x8.Pages, x8.Low, x8.High, x8.First, x8.Last, x8.Records⟩ : TableRef))) (x := (⟨x9.Id, x9.Level, x9.Zone, (IntKind.i64.wrap ((IntKind.i64.wrap ((IntKind.i64.wrap (v1 + 1)) + 1)) + 1)), x9.Pages, x9.Low, x9.High, x9.First, x9.Last, x9.Records⟩ : TableRef)) ?hh]; case hh => exact rfl) | skip
    obtain ⟨x10, hq_x10, hx_x10', h⟩ := getK_inv h
    have hx_x10 := get_of (r := rTableRef) hx_x10'
    try (rw [decide_eq_true hq_x10]; conv => lhs; whnf)
    rw [hx_x10]
    conv => lhs; whnf
    rw [hx_x10]
    conv => lhs; whnf
    first | (rw [map_set_of (r := rTableRef) (l := ((((v3.set (Int.toNat v2) (⟨v1, x6.Level, x6.Zone, x6.Page, x6.Pages, x6.Low, x6.High, x6.First, x6.Last, x6.Records⟩ : TableRef)).set (Int.toNat v2) (⟨x7.Id, (IntKind.i64.wrap (v1 + 1)), x7.Zone, x7.Page, x7.Pages, x7.Low, x7.High, x7.First, x7.Last, x7.Records⟩ : TableRef)).set (Int.toNat v2) (⟨x8.Id, x8.Level, (IntKind.i64.wrap ((IntKind.i64.wrap (v1 + 1)) + 1)), x8.Page, x8.Pages, x8.Low, x8.High, x8.First, x8.Last, x8.Records⟩ : TableRef)).set (Int.toNat v2) (⟨x9.Id, x9.Level, x9.Zone, (IntKind.i64.wrap ((IntKind.i64.wrap ((IntKind.i64.wrap (v1 + 1)) + 1)) + 1)), x9.Pages, x9.Low, x9.High, x9.First, x9.Last, x9.Records⟩ : TableRef))) (x := (⟨x10.Id, x10.Level, x10.Zone, x10.Page, (IntKind.i64.wrap ((IntKind.i64.wrap ((IntKind.i64.wrap ((IntKind.i64.wrap (v1 + 1)) + 1)) + 1)) + 1)), x10.Low, x10.High, x10.First, x10.Last, x10.Records⟩ : TableRef)) ?hh]; case hh => exact rfl) | skip
    obtain ⟨y11, h_y11, h⟩ := callK_inv h
    rw [cl_eq hcl (L_laws_markText (IntKind.i64.wrap ((IntKind.i64.wrap ((IntKind.i64.wrap ((IntKind.i64.wrap ((IntKind.i64.wrap (v1 + 1)) + 1)) + 1)) + 1)) + 1)) h_y11)]
    rotate_left
    · show _ = _; kernel_rfl
    · show _ = _; kernel_rfl
    conv => lhs; whnf
    obtain ⟨x12, hq_x12, hx_x12', h⟩ := getK_inv h
    have hx_x12 := get_of (r := rTableRef) hx_x12'
    try (rw [decide_eq_true hq_x12]; conv => lhs; whnf)
    rw [hx_x12]
    conv => lhs; whnf
    rw [hx_x12]
    conv => lhs; whnf
    first | (rw [map_set_of (r := rTableRef) (l := (((((v3.set (Int.toNat v2) (⟨v1, x6.Level, x6.Zone, x6.Page, x6.Pages, x6.Low, x6.High, x6.First, x6.Last, x6.Records⟩ : TableRef)).set (Int.toNat v2) (⟨x7.Id, (IntKind.i64.wrap (v1 + 1)), x7.Zone, x7.Page, x7.Pages, x7.Low, x7.High, x7.First, x7.Last, x7.Records⟩ : TableRef)).set (Int.toNat v2) (⟨x8.Id, x8.Level, (IntKind.i64.wrap ((IntKind.i64.wrap (v1 + 1)) + 1)), x8.Page, x8.Pages, x8.Low, x8.High, x8.First, x8.Last, x8.Records⟩ : TableRef)).set (Int.toNat v2) (⟨x9.Id, x9.Level, x9.Zone, (IntKind.i64.wrap ((IntKind.i64.wrap ((IntKind.i64.wrap (v1 + 1)) + 1)) + 1)), x9.Pages, x9.Low, x9.High, x9.First, x9.Last, x9.Records⟩ : TableRef)).set (Int.toNat v2) (⟨x10.Id, x10.Level, x10.Zone, x10.Page, (IntKind.i64.wrap ((IntKind.i64.wrap ((IntKind.i64.wrap ((IntKind.i64.wrap (v1 + 1)) + 1)) + 1)) + 1)), x10.Low, x10.High, x10.First, x10.Last, x10.Records⟩ : TableRef))) (x := (⟨x12.Id, x12.Level, x12.Zone, x12.Page, x12.Pages, y11, x12.High, x12.First, x12.Last, x12.Records⟩ : TableRef)) ?hh]; case hh => exact rfl) | skip
    obtain ⟨y13, h_y13, h⟩ := callK_inv h
    rw [cl_eq hcl (L_laws_markText (IntKind.i64.wrap ((IntKind.i64.wrap ((IntKind.i64.wrap ((IntKind.i64.wrap ((IntKind.i64.wrap ((IntKind.i64.wrap (v1 + 1)) + 1)) + 1)) + 1)) + 1)) + 1)) h_y13)]
    rotate_left
    · show _ = _; kernel_rfl
    · show _ = _; kernel_rfl
    conv => lhs; whnf
    obtain ⟨x14, hq_x14, hx_x14', h⟩ := getK_inv h
    have hx_x14 := get_of (r := rTableRef) hx_x14'
    try (rw [decide_eq_true hq_x14]; conv => lhs; whnf)
    rw [hx_x14]
    conv => lhs; whnf
    rw [hx_x14]
    conv => lhs; whnf
    first | (rw [map_set_of (r := rTableRef) (l := ((((((v3.set (Int.toNat v2) (⟨v1, x6.Level, x6.Zone, x6.Page, x6.Pages, x6.Low, x6.High, x6.First, x6.Last, x6.Records⟩ : TableRef)).set (Int.toNat v2) (⟨x7.Id, (IntKind.i64.wrap (v1 + 1)), x7.Zone, x7.Page, x7.Pages, x7.Low, x7.High, x7.First, x7.Last, x7.Records⟩ : TableRef)).set (Int.toNat v2) (⟨x8.Id, x8.Level, (IntKind.i64.wrap ((IntKind.i64.wrap (v1 + 1)) + 1)), x8.Page, x8.Pages, x8.Low, x8.High, x8.First, x8.Last, x8.Records⟩ : TableRef)).set (Int.toNat v2) (⟨x9.Id, x9.Level, x9.Zone, (IntKind.i64.wrap ((IntKind.i64.wrap ((IntKind.i64.wrap (v1 + 1)) + 1)) + 1)), x9.Pages, x9.Low, x9.High, x9.First, x9.Last, x9.Records⟩ : TableRef)).set (Int.toNat v2) (⟨x10.Id, x10.Level, x10.Zone, x10.Page, (IntKind.i64.wrap ((IntKind.i64.wrap ((IntKind.i64.wrap ((IntKind.i64.wrap (v1 + 1)) + 1)) + 1)) + 1)), x10.Low, x10.High, x10.First, x10.Last, x10.Records⟩ : TableRef)).set (Int.toNat v2) (⟨x12.Id, x12.Level, x12.Zone, x12.Page, x12.Pages, y11, x12.High, x12.First, x12.Last, x12.Records⟩ : TableRef))) (x := (⟨x14.Id, x14.Level, x14.Zone, x14.Page, x14.Pages, x14.Low, y13, x14.First, x14.Last, x14.Records⟩ : TableRef)) ?hh]; case hh => exact rfl) | skip
    obtain ⟨x15, hq_x15, hx_x15', h⟩ := getK_inv h
    have hx_x15 := get_of (r := rTableRef) hx_x15'
    try (rw [decide_eq_true hq_x15]; conv => lhs; whnf)
    rw [hx_x15]
    conv => lhs; whnf
    rw [hx_x15]
    conv => lhs; whnf
    first | (rw [map_set_of (r := rTableRef) (l := (((((((v3.set (Int.toNat v2) (⟨v1, x6.Level, x6.Zone, x6.Page, x6.Pages, x6.Low, x6.High, x6.First, x6.Last, x6.Records⟩ : TableRef)).set (Int.toNat v2) (⟨x7.Id, (IntKind.i64.wrap (v1 + 1)), x7.Zone, x7.Page, x7.Pages, x7.Low, x7.High, x7.First, x7.Last, x7.Records⟩ : TableRef)).set (Int.toNat v2) (⟨x8.Id, x8.Level, (IntKind.i64.wrap ((IntKind.i64.wrap (v1 + 1)) + 1)), x8.Page, x8.Pages, x8.Low, x8.High, x8.First, x8.Last, x8.Records⟩ : TableRef)).set (Int.toNat v2) (⟨x9.Id, x9.Level, x9.Zone, (IntKind.i64.wrap ((IntKind.i64.wrap ((IntKind.i64.wrap (v1 + 1)) + 1)) + 1)), x9.Pages, x9.Low, x9.High, x9.First, x9.Last, x9.Records⟩ : TableRef)).set (Int.toNat v2) (⟨x10.Id, x10.Level, x10.Zone, x10.Page, (IntKind.i64.wrap ((IntKind.i64.wrap ((IntKind.i64.wrap ((IntKind.i64.wrap (v1 + 1)) + 1)) + 1)) + 1)), x10.Low, x10.High, x10.First, x10.Last, x10.Records⟩ : TableRef)).set (Int.toNat v2) (⟨x12.Id, x12.Level, x12.Zone, x12.Page, x12.Pages, y11, x12.High, x12.First, x12.Last, x12.Records⟩ : TableRef)).set (Int.toNat v2) (⟨x14.Id, x14.Level, x14.Zone, x14.Page, x14.Pages, x14.Low, y13, x14.First, x14.Last, x14.Records⟩ : TableRef))) (x := (⟨x15.Id, x15.Level, x15.Zone, x15.Page, x15.Pages, x15.Low, x15.High, (IntKind.i64.wrap ((IntKind.i64.wrap ((IntKind.i64.wrap ((IntKind.i64.wrap ((IntKind.i64.wrap ((IntKind.i64.wrap ((IntKind.i64.wrap (v1 + 1)) + 1)) + 1)) + 1)) + 1)) + 1)) + 1)), x15.Last, x15.Records⟩ : TableRef)) ?hh]; case hh => exact rfl) | skip
    obtain ⟨x16, hq_x16, hx_x16', h⟩ := getK_inv h
    have hx_x16 := get_of (r := rTableRef) hx_x16'
    try (rw [decide_eq_true hq_x16]; conv => lhs; whnf)
    rw [hx_x16]
    conv => lhs; whnf
    rw [hx_x16]
    conv => lhs; whnf
    first | (rw [map_set_of (r := rTableRef) (l := ((((((((v3.set (Int.toNat v2) (⟨v1, x6.Level, x6.Zone, x6.Page, x6.Pages, x6.Low, x6.High, x6.First, x6.Last, x6.Records⟩ : TableRef)).set (Int.toNat v2) (⟨x7.Id, (IntKind.i64.wrap (v1 + 1)), x7.Zone, x7.Page, x7.Pages, x7.Low, x7.High, x7.First, x7.Last, x7.Records⟩ : TableRef)).set (Int.toNat v2) (⟨x8.Id, x8.Level, (IntKind.i64.wrap ((IntKind.i64.wrap (v1 + 1)) + 1)), x8.Page, x8.Pages, x8.Low, x8.High, x8.First, x8.Last, x8.Records⟩ : TableRef)).set (Int.toNat v2) (⟨x9.Id, x9.Level, x9.Zone, (IntKind.i64.wrap ((IntKind.i64.wrap ((IntKind.i64.wrap (v1 + 1)) + 1)) + 1)), x9.Pages, x9.Low, x9.High, x9.First, x9.Last, x9.Records⟩ : TableRef)).set (Int.toNat v2) (⟨x10.Id, x10.Level, x10.Zone, x10.Page, (IntKind.i64.wrap ((IntKind.i64.wrap ((IntKind.i64.wrap ((IntKind.i64.wrap (v1 + 1)) + 1)) + 1)) + 1)), x10.Low, x10.High, x10.First, x10.Last, x10.Records⟩ : TableRef)).set (Int.toNat v2) (⟨x12.Id, x12.Level, x12.Zone, x12.Page, x12.Pages, y11, x12.High, x12.First, x12.Last, x12.Records⟩ : TableRef)).set (Int.toNat v2) (⟨x14.Id, x14.Level, x14.Zone, x14.Page, x14.Pages, x14.Low, y13, x14.First, x14.Last, x14.Records⟩ : TableRef)).set (Int.toNat v2) (⟨x15.Id, x15.Level, x15.Zone, x15.Page, x15.Pages, x15.Low, x15.High, (IntKind.i64.wrap ((IntKind.i64.wrap ((IntKind.i64.wrap ((IntKind.i64.wrap ((IntKind.i64.wrap ((IntKind.i64.wrap ((IntKind.i64.wrap (v1 + 1)) + 1)) + 1)) + 1)) + 1)) + 1)) + 1)), x15.Last, x15.Records⟩ : TableRef))) (x := (⟨x16.Id, x16.Level, x16.Zone, x16.Page, x16.Pages, x16.Low, x16.High, x16.First, (IntKind.i64.wrap ((IntKind.i64.wrap ((IntKind.i64.wrap ((IntKind.i64.wrap ((IntKind.i64.wrap ((IntKind.i64.wrap ((IntKind.i64.wrap ((IntKind.i64.wrap (v1 + 1)) + 1)) + 1)) + 1)) + 1)) + 1)) + 1)) + 1)), x16.Records⟩ : TableRef)) ?hh]; case hh => exact rfl) | skip
    obtain ⟨x17, hq_x17, hx_x17', h⟩ := getK_inv h
    have hx_x17 := get_of (r := rTableRef) hx_x17'
    try (rw [decide_eq_true hq_x17]; conv => lhs; whnf)
    rw [hx_x17]
    conv => lhs; whnf
    rw [hx_x17]
    conv => lhs; whnf
    first | (rw [map_set_of (r := rTableRef) (l := (((((((((v3.set (Int.toNat v2) (⟨v1, x6.Level, x6.Zone, x6.Page, x6.Pages, x6.Low, x6.High, x6.First, x6.Last, x6.Records⟩ : TableRef)).set (Int.toNat v2) (⟨x7.Id, (IntKind.i64.wrap (v1 + 1)), x7.Zone, x7.Page, x7.Pages, x7.Low, x7.High, x7.First, x7.Last, x7.Records⟩ : TableRef)).set (Int.toNat v2) (⟨x8.Id, x8.Level, (IntKind.i64.wrap ((IntKind.i64.wrap (v1 + 1)) + 1)), x8.Page, x8.Pages, x8.Low, x8.High, x8.First, x8.Last, x8.Records⟩ : TableRef)).set (Int.toNat v2) (⟨x9.Id, x9.Level, x9.Zone, (IntKind.i64.wrap ((IntKind.i64.wrap ((IntKind.i64.wrap (v1 + 1)) + 1)) + 1)), x9.Pages, x9.Low, x9.High, x9.First, x9.Last, x9.Records⟩ : TableRef)).set (Int.toNat v2) (⟨x10.Id, x10.Level, x10.Zone, x10.Page, (IntKind.i64.wrap ((IntKind.i64.wrap ((IntKind.i64.wrap ((IntKind.i64.wrap (v1 + 1)) + 1)) + 1)) + 1)), x10.Low, x10.High, x10.First, x10.Last, x10.Records⟩ : TableRef)).set (Int.toNat v2) (⟨x12.Id, x12.Level, x12.Zone, x12.Page, x12.Pages, y11, x12.High, x12.First, x12.Last, x12.Records⟩ : TableRef)).set (Int.toNat v2) (⟨x14.Id, x14.Level, x14.Zone, x14.Page, x14.Pages, x14.Low, y13, x14.First, x14.Last, x14.Records⟩ : TableRef)).set (Int.toNat v2) (⟨x15.Id, x15.Level, x15.Zone, x15.Page, x15.Pages, x15.Low, x15.High, (IntKind.i64.wrap ((IntKind.i64.wrap ((IntKind.i64.wrap ((IntKind.i64.wrap ((IntKind.i64.wrap ((IntKind.i64.wrap ((IntKind.i64.wrap (v1 + 1)) + 1)) + 1)) + 1)) + 1)) + 1)) + 1)), x15.Last, x15.Records⟩ : TableRef)).set (Int.toNat v2) (⟨x16.Id, x16.Level, x16.Zone, x16.Page, x16.Pages, x16.Low, x16.High, x16.First, (IntKind.i64.wrap ((IntKind.i64.wrap ((IntKind.i64.wrap ((IntKind.i64.wrap ((IntKind.i64.wrap ((IntKind.i64.wrap ((IntKind.i64.wrap ((IntKind.i64.wrap (v1 + 1)) + 1)) + 1)) + 1)) + 1)) + 1)) + 1)) + 1)), x16.Records⟩ : TableRef))) (x := (⟨x17.Id, x17.Level, x17.Zone, x17.Page, x17.Pages, x17.Low, x17.High, x17.First, x17.Last, (IntKind.i64.wrap ((IntKind.i64.wrap ((IntKind.i64.wrap ((IntKind.i64.wrap ((IntKind.i64.wrap ((IntKind.i64.wrap ((IntKind.i64.wrap ((IntKind.i64.wrap ((IntKind.i64.wrap (v1 + 1)) + 1)) + 1)) + 1)) + 1)) + 1)) + 1)) + 1)) + 1))⟩ : TableRef)) ?hh]; case hh => exact rfl) | skip
    exact hnx4 _ _ _ _ (fun kk => by kernel_rfl) h

noncomputable def p_laws_markVersion (a_0 : Int) (a_1 : Int) (a_2 : Int) (a_3 : Int) (a_4 : List TableRef) : Option (Int × (List TableRef)) :=
  callK (p_laws_markTableRefS a_3 a_4) fun y1 =>
  some (y1.1, y1.2)

set_option maxHeartbeats 4000000 in
theorem L_laws_markVersion (a_0 : Int) (a_1 : Int) (a_2 : Int) (a_3 : Int) (a_4 : List TableRef) {r : (Int × (List TableRef))} (h : p_laws_markVersion a_0 a_1 a_2 a_3 a_4 = some r) : callL E 47 [.agg [IN a_0, IN a_1, IN a_2, .sl 0], IN a_3] ([some (.arr 231 10 (a_4.map rTableRef))] : Fo) = some (IN r.1, ([some (.arr 231 10 (r.2.map rTableRef))] : Fo)) := by
  unfold p_laws_markVersion at h
  refine callW (fu := Try.f47) rfl rfl rfl NN ?_
  intro lp cl hlp hcl
  conv => lhs; whnf
  obtain ⟨y1, h_y1, h⟩ := callK_inv h
  rw [cl_eq hcl (L_laws_markTableRefS a_3 a_4 h_y1)]
  rotate_left
  · show _ = _; kernel_rfl
  · show _ = _; kernel_rfl
  conv => lhs; whnf
  obtain rfl := Option.some.inj h; show _ = _; kernel_rfl

noncomputable def p_laws_heldTableRefS (a_0 : List TableRef) (a_1 : Int) : Option Int :=
  grd (a_0.length < 4611686018427387904) <|
  forK a_0 (fun (i17 : Nat) x20 (v18 : Int) (nx19 : Int → Option _) =>
    if ¬ x20.Id = v18 then
      some (-1)
    else
      if ¬ x20.Level = (IntKind.i64.wrap (v18 + 1)) then
        some (-1)
      else
        if ¬ x20.Zone = (IntKind.i64.wrap ((IntKind.i64.wrap (v18 + 1)) + 1)) then
          some (-1)
        else
          if ¬ x20.Page = (IntKind.i64.wrap ((IntKind.i64.wrap ((IntKind.i64.wrap (v18 + 1)) + 1)) + 1)) then
            some (-1)
          else
            if ¬ x20.Pages = (IntKind.i64.wrap ((IntKind.i64.wrap ((IntKind.i64.wrap ((IntKind.i64.wrap (v18 + 1)) + 1)) + 1)) + 1)) then
              some (-1)
            else
              callK (p_laws_markText (IntKind.i64.wrap ((IntKind.i64.wrap ((IntKind.i64.wrap ((IntKind.i64.wrap ((IntKind.i64.wrap (v18 + 1)) + 1)) + 1)) + 1)) + 1))) fun y26 =>
              if (x20.Low.toList == y26.toList) = true then
                callK (p_laws_markText (IntKind.i64.wrap ((IntKind.i64.wrap ((IntKind.i64.wrap ((IntKind.i64.wrap ((IntKind.i64.wrap ((IntKind.i64.wrap (v18 + 1)) + 1)) + 1)) + 1)) + 1)) + 1))) fun y28 =>
                if (x20.High.toList == y28.toList) = true then
                  if ¬ x20.First = (IntKind.i64.wrap ((IntKind.i64.wrap ((IntKind.i64.wrap ((IntKind.i64.wrap ((IntKind.i64.wrap ((IntKind.i64.wrap ((IntKind.i64.wrap (v18 + 1)) + 1)) + 1)) + 1)) + 1)) + 1)) + 1)) then
                    some (-1)
                  else
                    if ¬ x20.Last = (IntKind.i64.wrap ((IntKind.i64.wrap ((IntKind.i64.wrap ((IntKind.i64.wrap ((IntKind.i64.wrap ((IntKind.i64.wrap ((IntKind.i64.wrap ((IntKind.i64.wrap (v18 + 1)) + 1)) + 1)) + 1)) + 1)) + 1)) + 1)) + 1)) then
                      some (-1)
                    else
                      if ¬ x20.Records = (IntKind.i64.wrap ((IntKind.i64.wrap ((IntKind.i64.wrap ((IntKind.i64.wrap ((IntKind.i64.wrap ((IntKind.i64.wrap ((IntKind.i64.wrap ((IntKind.i64.wrap ((IntKind.i64.wrap (v18 + 1)) + 1)) + 1)) + 1)) + 1)) + 1)) + 1)) + 1)) + 1)) then
                        some (-1)
                      else
                        nx19 (IntKind.i64.wrap ((IntKind.i64.wrap ((IntKind.i64.wrap ((IntKind.i64.wrap ((IntKind.i64.wrap ((IntKind.i64.wrap ((IntKind.i64.wrap ((IntKind.i64.wrap ((IntKind.i64.wrap ((IntKind.i64.wrap (v18 + 1)) + 1)) + 1)) + 1)) + 1)) + 1)) + 1)) + 1)) + 1)) + 1))
                else
                  some (-1)
              else
                some (-1)) a_1 (fun (v18 : Int) =>
    some v18)

set_option maxHeartbeats 4000000 in
theorem L_laws_heldTableRefS (a_0 : List TableRef) (a_1 : Int) {r : Int} (h : p_laws_heldTableRefS a_0 a_1 = some r) : callL E 133 [.d (.arr (a_0.map rTableRef)), IN a_1] ([] : Fo) = some (IN r, ([] : Fo)) := by
  unfold p_laws_heldTableRefS at h
  refine callW (fu := Try.f133) rfl rfl rfl NN ?_
  intro lp cl hlp hcl
  conv => lhs; whnf
  obtain ⟨hl_i17, h⟩ := grd_inv h
  refine loop_for hlp (l := a_0) hl_i17 (fun (i17 : Nat) (v18 : Int) => ([.d (.arr (a_0.map rTableRef)), IN v18, .dead, .dead, .dead, IN (i17 : Int)] ++ List.replicate 99 .dead : List V)) (fun (i17 : Nat) (v18 : Int) => ([] : Fo)) (fun (r : Int) => ((IN r : V), ([] : Fo))) ?_ ?_ a_1 _ (fun kk => by kernel_rfl) h
  · clear h
    rintro next_nx19 nx19 i17 hi_i17 hnx19 v18 r h
    try dsimp only at h
    have hn_i17 : i17 < 4611686018427387904 := by omega
    have hx_x20 := get_map rTableRef a_0 i17 hi_i17
    generalize a_0[i17] = x20 at h hx_x20
    have hd_i17 : (decide ((i17 : Int) < (a_0.length : Int))) = true := decide_eq_true (by omega)
    conv => lhs; whnf
    try rw [len_of (l := a_0) (r := rTableRef)]
    rw [hd_i17]
    conv => lhs; whnf
    try (rw [decide_eq_true hq_x20]; conv => lhs; whnf)
    rw [hx_x20]
    conv => lhs; whnf
    rw [hx_x20]
    conv => lhs; whnf
    cases hb21 : (x20.Id != v18)
    · replace h := ifF h ((fun h => not_not_intro (bneF h)) hb21); conv => lhs; whnf
      try (rw [decide_eq_true hq_x20]; conv => lhs; whnf)
      rw [hx_x20]
      conv => lhs; whnf
      rw [hx_x20]
      conv => lhs; whnf
      cases hb22 : (x20.Level != (IntKind.i64.wrap (v18 + 1)))
      · replace h := ifF h ((fun h => not_not_intro (bneF h)) hb22); conv => lhs; whnf
        try (rw [decide_eq_true hq_x20]; conv => lhs; whnf)
        rw [hx_x20]
        conv => lhs; whnf
        rw [hx_x20]
        conv => lhs; whnf
        cases hb23 : (x20.Zone != (IntKind.i64.wrap ((IntKind.i64.wrap (v18 + 1)) + 1)))
        · replace h := ifF h ((fun h => not_not_intro (bneF h)) hb23); conv => lhs; whnf
          try (rw [decide_eq_true hq_x20]; conv => lhs; whnf)
          rw [hx_x20]
          conv => lhs; whnf
          rw [hx_x20]
          conv => lhs; whnf
          cases hb24 : (x20.Page != (IntKind.i64.wrap ((IntKind.i64.wrap ((IntKind.i64.wrap (v18 + 1)) + 1)) + 1)))
          · replace h := ifF h ((fun h => not_not_intro (bneF h)) hb24); conv => lhs; whnf
            try (rw [decide_eq_true hq_x20]; conv => lhs; whnf)
            rw [hx_x20]
            conv => lhs; whnf
            rw [hx_x20]
            conv => lhs; whnf
            cases hb25 : (x20.Pages != (IntKind.i64.wrap ((IntKind.i64.wrap ((IntKind.i64.wrap ((IntKind.i64.wrap (v18 + 1)) + 1)) + 1)) + 1)))
            · replace h := ifF h ((fun h => not_not_intro (bneF h)) hb25); conv => lhs; whnf
              try (rw [decide_eq_true hq_x20]; conv => lhs; whnf)
              rw [hx_x20]
              conv => lhs; whnf
              rw [hx_x20]
              conv => lhs; whnf
              obtain ⟨y26, h_y26, h⟩ := callK_inv h
              rw [cl_eq hcl (L_laws_markText (IntKind.i64.wrap ((IntKind.i64.wrap ((IntKind.i64.wrap ((IntKind.i64.wrap ((IntKind.i64.wrap (v18 + 1)) + 1)) + 1)) + 1)) + 1)) h_y26)]
              rotate_left
              · show _ = _; kernel_rfl
              · show _ = _; kernel_rfl
              conv => lhs; whnf
              cases hb27 : (x20.Low.toList == y26.toList)
              · replace h := ifF h (booF hb27); conv => lhs; whnf
                obtain rfl := Option.some.inj h; show _ = _; kernel_rfl
              · replace h := ifT h hb27; conv => lhs; whnf
                try (rw [decide_eq_true hq_x20]; conv => lhs; whnf)
                rw [hx_x20]
                conv => lhs; whnf
                rw [hx_x20]
                conv => lhs; whnf
                obtain ⟨y28, h_y28, h⟩ := callK_inv h
                rw [cl_eq hcl (L_laws_markText (IntKind.i64.wrap ((IntKind.i64.wrap ((IntKind.i64.wrap ((IntKind.i64.wrap ((IntKind.i64.wrap ((IntKind.i64.wrap (v18 + 1)) + 1)) + 1)) + 1)) + 1)) + 1)) h_y28)]
                rotate_left
                · show _ = _; kernel_rfl
                · show _ = _; kernel_rfl
                conv => lhs; whnf
                cases hb29 : (x20.High.toList == y28.toList)
                · replace h := ifF h (booF hb29); conv => lhs; whnf
                  obtain rfl := Option.some.inj h; show _ = _; kernel_rfl
                · replace h := ifT h hb29; conv => lhs; whnf
                  try (rw [decide_eq_true hq_x20]; conv => lhs; whnf)
                  rw [hx_x20]
                  conv => lhs; whnf
                  rw [hx_x20]
                  conv => lhs; whnf
                  cases hb30 : (x20.First != (IntKind.i64.wrap ((IntKind.i64.wrap ((IntKind.i64.wrap ((IntKind.i64.wrap ((IntKind.i64.wrap ((IntKind.i64.wrap ((IntKind.i64.wrap (v18 + 1)) + 1)) + 1)) + 1)) + 1)) + 1)) + 1)))
                  · replace h := ifF h ((fun h => not_not_intro (bneF h)) hb30); conv => lhs; whnf
                    try (rw [decide_eq_true hq_x20]; conv => lhs; whnf)
                    rw [hx_x20]
                    conv => lhs; whnf
                    rw [hx_x20]
                    conv => lhs; whnf
                    cases hb31 : (x20.Last != (IntKind.i64.wrap ((IntKind.i64.wrap ((IntKind.i64.wrap ((IntKind.i64.wrap ((IntKind.i64.wrap ((IntKind.i64.wrap ((IntKind.i64.wrap ((IntKind.i64.wrap (v18 + 1)) + 1)) + 1)) + 1)) + 1)) + 1)) + 1)) + 1)))
                    · replace h := ifF h ((fun h => not_not_intro (bneF h)) hb31); conv => lhs; whnf
                      try (rw [decide_eq_true hq_x20]; conv => lhs; whnf)
                      rw [hx_x20]
                      conv => lhs; whnf
                      rw [hx_x20]
                      conv => lhs; whnf
                      cases hb32 : (x20.Records != (IntKind.i64.wrap ((IntKind.i64.wrap ((IntKind.i64.wrap ((IntKind.i64.wrap ((IntKind.i64.wrap ((IntKind.i64.wrap ((IntKind.i64.wrap ((IntKind.i64.wrap ((IntKind.i64.wrap (v18 + 1)) + 1)) + 1)) + 1)) + 1)) + 1)) + 1)) + 1)) + 1)))
                      · replace h := ifF h ((fun h => not_not_intro (bneF h)) hb32); conv => lhs; whnf
                        rw [wrap_nat i17 (by have := hn_i17; omega)]
                        exact hnx19 _ _ _ _ (fun kk => by kernel_rfl) h
                      · replace h := ifT h (bneT hb32); conv => lhs; whnf
                        obtain rfl := Option.some.inj h; show _ = _; kernel_rfl
                    · replace h := ifT h (bneT hb31); conv => lhs; whnf
                      obtain rfl := Option.some.inj h; show _ = _; kernel_rfl
                  · replace h := ifT h (bneT hb30); conv => lhs; whnf
                    obtain rfl := Option.some.inj h; show _ = _; kernel_rfl
            · replace h := ifT h (bneT hb25); conv => lhs; whnf
              obtain rfl := Option.some.inj h; show _ = _; kernel_rfl
          · replace h := ifT h (bneT hb24); conv => lhs; whnf
            obtain rfl := Option.some.inj h; show _ = _; kernel_rfl
        · replace h := ifT h (bneT hb23); conv => lhs; whnf
          obtain rfl := Option.some.inj h; show _ = _; kernel_rfl
      · replace h := ifT h (bneT hb22); conv => lhs; whnf
        obtain rfl := Option.some.inj h; show _ = _; kernel_rfl
    · replace h := ifT h (bneT hb21); conv => lhs; whnf
      obtain rfl := Option.some.inj h; show _ = _; kernel_rfl
  · clear h
    rintro next_nx19 v18 r h
    try dsimp only at h
    have hd_i17 : (decide ((a_0.length : Int) < (a_0.length : Int))) = false := decide_eq_false (by omega)
    conv => lhs; whnf
    try rw [len_of (l := a_0) (r := rTableRef)]
    rw [hd_i17]
    conv => lhs; whnf
    obtain rfl := Option.some.inj h; show _ = _; kernel_rfl

noncomputable def p_laws_heldVersion (a_0 : Version) (a_1 : Int) : Option Int :=
  callK (p_laws_heldTableRefS a_0.Tables a_1) fun y1 =>
  if y1 < 0 then
    some (-1)
  else
    some y1

set_option maxHeartbeats 4000000 in
theorem L_laws_heldVersion (a_0 : Version) (a_1 : Int) {r : Int} (h : p_laws_heldVersion a_0 a_1 = some r) : callL E 48 [.agg [IN a_0.NextId, IN a_0.LogZone, IN a_0.LogSeq, .d (.arr (a_0.Tables.map rTableRef))], IN a_1] ([] : Fo) = some (IN r, ([] : Fo)) := by
  unfold p_laws_heldVersion at h
  refine callW (fu := Try.f48) rfl rfl rfl NN ?_
  intro lp cl hlp hcl
  conv => lhs; whnf
  obtain ⟨y1, h_y1, h⟩ := callK_inv h
  rw [cl_eq hcl (L_laws_heldTableRefS a_0.Tables a_1 h_y1)]
  rotate_left
  · show _ = _; kernel_rfl
  · show _ = _; kernel_rfl
  conv => lhs; whnf
  cases hb2 : (decide (y1 < 0))
  · replace h := ifF h (decF hb2); conv => lhs; whnf
    obtain rfl := Option.some.inj h; show _ = _; kernel_rfl
  · replace h := ifT h (decT hb2); conv => lhs; whnf
    obtain rfl := Option.some.inj h; show _ = _; kernel_rfl

noncomputable def p_laws_FnExactDecodeVersion (a_0 : ByteArray) : Option Bool :=
  if (ByteArray.size a_0 : Int) > 1048576 then
    some true
  else
    callK (p_spec_DecodeVersion a_0) fun y2 =>
    callK (p_impl_DecodeVersion a_0) fun y3 =>
    callK (p_laws_eqVersion (⟨y3.1, y3.2.1, y3.2.2.1, y3.2.2.2.2⟩ : Version) y2.1) fun y4 =>
    if y4 = true then
      if (y3.2.2.2.1 == y2.2) = true then
        callK (p_laws_markVersion y3.1 y3.2.1 y3.2.2.1 1 y3.2.2.2.2) fun y7 =>
        callK (p_laws_heldVersion (⟨y3.1, y3.2.1, y3.2.2.1, y7.2⟩ : Version) 1) fun y8 =>
        if y8 < 0 then
          some false
        else
          if ¬ y8 = y7.1 then
            some false
          else
            callK (p_impl_DecodeVersion a_0) fun y11 =>
            callK (p_laws_eqVersion (⟨y11.1, y11.2.1, y11.2.2.1, y11.2.2.2.2⟩ : Version) y2.1) fun y12 =>
            if y12 = true then
              if (y11.2.2.2.1 == y2.2) = true then
                callK (p_laws_heldVersion (⟨y3.1, y3.2.1, y3.2.2.1, y7.2⟩ : Version) 1) fun y15 =>
                if y15 < 0 then
                  some false
                else
                  if ¬ y15 = y7.1 then
                    some false
                  else
                    some true
              else
                some false
            else
              some false
      else
        some false
    else
      some false

set_option maxHeartbeats 4000000 in
theorem L_laws_FnExactDecodeVersion (a_0 : ByteArray) {r : Bool} (h : p_laws_FnExactDecodeVersion a_0 = some r) : callL E 7 [ST a_0] ([] : Fo) = some (BO r, ([] : Fo)) := by
  unfold p_laws_FnExactDecodeVersion at h
  refine callW (fu := Try.f7) rfl rfl rfl NN ?_
  intro lp cl hlp hcl
  conv => lhs; whnf
  cases hb1 : (decide ((ByteArray.size a_0 : Int) > 1048576))
  · replace h := ifF h (decF hb1); conv => lhs; whnf
    obtain ⟨y2, h_y2, h⟩ := callK_inv h
    rw [cl_eq hcl (L_spec_DecodeVersion a_0 h_y2)]
    rotate_left
    · show _ = _; kernel_rfl
    · show _ = _; kernel_rfl
    conv => lhs; whnf
    obtain ⟨y3, h_y3, h⟩ := callK_inv h
    rw [cl_eq hcl (L_impl_DecodeVersion a_0 h_y3)]
    rotate_left
    · show _ = _; kernel_rfl
    · show _ = _; kernel_rfl
    conv => lhs; whnf
    obtain ⟨y4, h_y4, h⟩ := callK_inv h
    rw [cl_eq hcl (L_laws_eqVersion (⟨y3.1, y3.2.1, y3.2.2.1, y3.2.2.2.2⟩ : Version) y2.1 h_y4)]
    rotate_left
    · show _ = _; kernel_rfl
    · show _ = _; kernel_rfl
    conv => lhs; whnf
    cases hb5 : y4
    · replace h := ifF h (booF hb5); conv => lhs; whnf
      try (rw [hb5]; conv => lhs; whnf)
      try (rw [hb5]; conv => lhs; whnf)
      try (rw [hb5]; conv => lhs; whnf)
      obtain rfl := Option.some.inj h; show _ = _; kernel_rfl
    · replace h := ifT h hb5; conv => lhs; whnf
      try (rw [hb5]; conv => lhs; whnf)
      try (rw [hb5]; conv => lhs; whnf)
      try (rw [hb5]; conv => lhs; whnf)
      cases hb6 : (y3.2.2.2.1 == y2.2)
      · replace h := ifF h (booF hb6); conv => lhs; whnf
        obtain rfl := Option.some.inj h; show _ = _; kernel_rfl
      · replace h := ifT h hb6; conv => lhs; whnf
        obtain ⟨y7, h_y7, h⟩ := callK_inv h
        rw [cl_eq hcl (L_laws_markVersion y3.1 y3.2.1 y3.2.2.1 1 y3.2.2.2.2 h_y7)]
        rotate_left
        · show _ = _; kernel_rfl
        · show _ = _; kernel_rfl
        conv => lhs; whnf
        obtain ⟨y8, h_y8, h⟩ := callK_inv h
        rw [cl_eq hcl (L_laws_heldVersion (⟨y3.1, y3.2.1, y3.2.2.1, y7.2⟩ : Version) 1 h_y8)]
        rotate_left
        · show _ = _; kernel_rfl
        · show _ = _; kernel_rfl
        conv => lhs; whnf
        cases hb9 : (decide (y8 < 0))
        · replace h := ifF h (decF hb9); conv => lhs; whnf
          cases hb10 : (y8 != y7.1)
          · replace h := ifF h ((fun h => not_not_intro (bneF h)) hb10); conv => lhs; whnf
            obtain ⟨y11, h_y11, h⟩ := callK_inv h
            rw [cl_eq hcl (L_impl_DecodeVersion a_0 h_y11)]
            rotate_left
            · show _ = _; kernel_rfl
            · show _ = _; kernel_rfl
            conv => lhs; whnf
            obtain ⟨y12, h_y12, h⟩ := callK_inv h
            rw [cl_eq hcl (L_laws_eqVersion (⟨y11.1, y11.2.1, y11.2.2.1, y11.2.2.2.2⟩ : Version) y2.1 h_y12)]
            rotate_left
            · show _ = _; kernel_rfl
            · show _ = _; kernel_rfl
            conv => lhs; whnf
            cases hb13 : y12
            · replace h := ifF h (booF hb13); conv => lhs; whnf
              try (rw [hb13]; conv => lhs; whnf)
              try (rw [hb13]; conv => lhs; whnf)
              try (rw [hb13]; conv => lhs; whnf)
              obtain rfl := Option.some.inj h; show _ = _; kernel_rfl
            · replace h := ifT h hb13; conv => lhs; whnf
              try (rw [hb13]; conv => lhs; whnf)
              try (rw [hb13]; conv => lhs; whnf)
              try (rw [hb13]; conv => lhs; whnf)
              cases hb14 : (y11.2.2.2.1 == y2.2)
              · replace h := ifF h (booF hb14); conv => lhs; whnf
                obtain rfl := Option.some.inj h; show _ = _; kernel_rfl
              · replace h := ifT h hb14; conv => lhs; whnf
                obtain ⟨y15, h_y15, h⟩ := callK_inv h
                rw [cl_eq hcl (L_laws_heldVersion (⟨y3.1, y3.2.1, y3.2.2.1, y7.2⟩ : Version) 1 h_y15)]
                rotate_left
                · show _ = _; kernel_rfl
                · show _ = _; kernel_rfl
                conv => lhs; whnf
                cases hb16 : (decide (y15 < 0))
                · replace h := ifF h (decF hb16); conv => lhs; whnf
                  cases hb17 : (y15 != y7.1)
                  · replace h := ifF h ((fun h => not_not_intro (bneF h)) hb17); conv => lhs; whnf
                    obtain rfl := Option.some.inj h; show _ = _; kernel_rfl
                  · replace h := ifT h (bneT hb17); conv => lhs; whnf
                    obtain rfl := Option.some.inj h; show _ = _; kernel_rfl
                · replace h := ifT h (decT hb16); conv => lhs; whnf
                  obtain rfl := Option.some.inj h; show _ = _; kernel_rfl
          · replace h := ifT h (bneT hb10); conv => lhs; whnf
            obtain rfl := Option.some.inj h; show _ = _; kernel_rfl
        · replace h := ifT h (decT hb9); conv => lhs; whnf
          obtain rfl := Option.some.inj h; show _ = _; kernel_rfl
  · replace h := ifT h (decT hb1); conv => lhs; whnf
    obtain rfl := Option.some.inj h; show _ = _; kernel_rfl
/-! ### Numbers in base 128 -/
theorem orK_nat (a b : Nat) (h : a ||| b < 9223372036854775808) : orK .i64 (a : Int) (b : Int) = ((a ||| b : Nat) : Int) := by
  have ha : a ≤ a ||| b := Nat.left_le_or
  have hb : b ≤ a ||| b := Nat.right_le_or
  have e : orK .i64 (a : Int) (b : Int) = IntKind.i64.wrap ((a ||| b : Nat) : Int) := by
    show IntKind.i64.wrap (((BitVec.ofInt 64 (a : Int) ||| BitVec.ofInt 64 (b : Int)).toNat : Nat) : Int) = _
    rw [BitVec.ofInt_natCast, BitVec.ofInt_natCast, BitVec.toNat_or, BitVec.toNat_ofNat, BitVec.toNat_ofNat, Nat.mod_eq_of_lt (by omega), Nat.mod_eq_of_lt (by omega)]
  rw [e]
  unfold IntKind.wrap
  simp [IntKind.signed, IntKind.bits]
  omega
theorem andK_nat (a b : Nat) (ha : a < 9223372036854775808) (hb : b < 9223372036854775808) : andK .i64 (a : Int) (b : Int) = ((a &&& b : Nat) : Int) := by
  have hab : a &&& b ≤ a := Nat.and_le_left
  have e : andK .i64 (a : Int) (b : Int) = IntKind.i64.wrap ((a &&& b : Nat) : Int) := by
    show IntKind.i64.wrap (((BitVec.ofInt 64 (a : Int) &&& BitVec.ofInt 64 (b : Int)).toNat : Nat) : Int) = _
    rw [BitVec.ofInt_natCast, BitVec.ofInt_natCast, BitVec.toNat_and, BitVec.toNat_ofNat, BitVec.toNat_ofNat, Nat.mod_eq_of_lt (by omega), Nat.mod_eq_of_lt (by omega)]
  rw [e]
  unfold IntKind.wrap
  simp [IntKind.signed, IntKind.bits]
  omega
theorem or_digit {a c i : Nat} (ha : a < 2 ^ i) : a ||| c * 2 ^ i = a + c * 2 ^ i := by
  have := Nat.two_pow_add_eq_or_of_lt ha c
  rw [Nat.mul_comm c, Nat.or_comm, ← this, Nat.add_comm]
def enc (n : Nat) : List UInt8 := if h : n < 128 then [UInt8.ofNat n] else UInt8.ofNat (n % 128 + 128) :: enc (n / 128)
termination_by n
theorem enc_lo {n : Nat} (h : n < 128) : enc n = [UInt8.ofNat n] := by rw [enc, dif_pos h]
theorem enc_hi {n : Nat} (h : ¬ n < 128) : enc n = UInt8.ofNat (n % 128 + 128) :: enc (n / 128) := by rw [enc, dif_neg h]
def decN : Nat → Bool → List UInt8 → Option (Nat × Nat)
  | 0, _, _ => none
  | _ + 1, _, [] => none
  | k + 1, first, b :: l => if b.toNat < 128 then (if first = false ∧ b.toNat = 0 then none else some (b.toNat, 1)) else match decN k false l with
    | some (v, m) => some (b.toNat % 128 + 128 * v, m + 1)
    | none => none
theorem u8_of (n : Nat) (h : n < 256) : (UInt8.ofNat n).toNat = n := by simp; omega
theorem u8_eq {a : UInt8} {n : Nat} (h : a.toNat = n) : UInt8.ofNat n = a := by rw [← h]; simp
theorem enc_dec : ∀ {k : Nat} {f : Bool} {l : List UInt8} {v m : Nat}, decN k f l = some (v, m) → (f = true ∨ v ≠ 0) ∧ enc v = l.take m ∧ 1 ≤ m ∧ m ≤ l.length ∧ m ≤ k ∧ v < 128 ^ k
  | 0, _, _, _, _, h => by simp [decN] at h
  | _ + 1, _, [], _, _, h => by simp [decN] at h
  | k + 1, f, b :: l, v, m, h => by
    have hb := b.toNat_lt
    unfold decN at h
    split at h
    · rename_i hlt
      split at h
      · simp at h
      · rename_i hz
        simp only [Option.some.injEq, Prod.mk.injEq] at h
        obtain ⟨rfl, rfl⟩ := h
        refine ⟨?_, by rw [enc_lo hlt]; simp, Nat.le_refl _, by simp, by omega, ?_⟩
        · cases f
          · exact .inr fun h0 => hz ⟨rfl, h0⟩
          · exact .inl rfl
        · have : 128 ^ 1 ≤ 128 ^ (k + 1) := Nat.pow_le_pow_right (by omega) (by omega)
          omega
    · rename_i hlt
      split at h
      · rename_i v' m' h'
        simp only [Option.some.injEq, Prod.mk.injEq] at h
        obtain ⟨rfl, rfl⟩ := h
        obtain ⟨g1, g2, g3, g4, g5, g6⟩ := enc_dec h'
        have hv : v' ≠ 0 := g1.resolve_left (by simp)
        have e1 : (b.toNat % 128 + 128 * v') % 128 = b.toNat % 128 := by omega
        have e2 : (b.toNat % 128 + 128 * v') / 128 = v' := by omega
        refine ⟨.inr (by omega), ?_, by omega, by simp; omega, by omega, ?_⟩
        · rw [enc_hi (by omega), e1, e2, g2, List.take_succ_cons]
          congr 1
          exact u8_eq (by omega)
        · rw [Nat.pow_succ]
          have : v' + 1 ≤ 128 ^ k := g6
          have := Nat.mul_le_mul_left 128 this
          omega
      · simp at h
theorem dec_enc : ∀ {k : Nat} {f : Bool} {v : Nat} (r : List UInt8), v < 128 ^ k → (v ≠ 0 ∨ (f = true ∧ 0 < k)) → decN k f (enc v ++ r) = some (v, (enc v).length)
  | 0, f, v, r, h, h2 => by
    have hv : v = 0 := by simpa using h
    rcases h2 with h2 | ⟨_, h2⟩
    · exact absurd hv h2
    · omega
  | k + 1, f, v, r, h, h2 => by
    by_cases hlt : v < 128
    · rw [enc_lo hlt, List.singleton_append, decN, u8_of v (by omega), if_pos hlt, if_neg]
      · rfl
      · rintro ⟨rfl, h0⟩
        rcases h2 with h2 | ⟨h2, _⟩
        · exact h2 h0
        · simp at h2
    · have hdiv : v / 128 < 128 ^ k := by
        rw [Nat.pow_succ, Nat.mul_comm] at h
        exact Nat.div_lt_of_lt_mul h
      rw [enc_hi hlt, List.cons_append, decN, u8_of _ (by omega), if_neg (by omega), dec_enc (f := false) r hdiv (.inl (by omega))]
      simp only [Option.some.injEq, Prod.mk.injEq, List.length_cons, and_true]
      omega
theorem enc_len : ∀ {i : Nat} {n : Nat}, 1 ≤ i → n < 128 ^ i → (enc n).length ≤ i
  | 0, n, h, _ => by omega
  | i + 1, n, _, h => by
    by_cases hlt : n < 128
    · rw [enc_lo hlt]; simp
    · rw [enc_hi hlt, List.length_cons]
      by_cases hi : i = 0
      · subst hi; simp at h; omega
      · have hdiv : n / 128 < 128 ^ i := by
          rw [Nat.pow_succ, Nat.mul_comm] at h
          exact Nat.div_lt_of_lt_mul h
        have := enc_len (by omega) hdiv
        omega
theorem enc_pos (n : Nat) : 1 ≤ (enc n).length := by
  by_cases hlt : n < 128
  · rw [enc_lo hlt]; simp
  · rw [enc_hi hlt]; simp
/-- What the decoder of both sides comes to. -/
def decU (l : List UInt8) : Int × Int × Bool := match decN 9 true l with
  | some (v, m) => ((v : Int), (m : Int), true)
  | none => (0, 0, false)
theorem shift_w (i : Nat) (h : i < 9) : (min (Int.toNat (IntKind.u64.wrap (IntKind.i64.wrap (7 * (i : Int))))) IntKind.i64.bits) = 7 * i ∧ (min (Int.toNat (IntKind.i64.wrap (7 * (i : Int)))) IntKind.i64.bits) = 7 * i ∧ 0 ≤ IntKind.u64.wrap (IntKind.i64.wrap (7 * (i : Int))) ∧ 0 ≤ IntKind.i64.wrap (7 * (i : Int)) := by
  have : ∀ i : Fin 9, (min (Int.toNat (IntKind.u64.wrap (IntKind.i64.wrap (7 * (i.val : Int))))) IntKind.i64.bits) = 7 * i.val ∧ (min (Int.toNat (IntKind.i64.wrap (7 * (i.val : Int)))) IntKind.i64.bits) = 7 * i.val ∧ 0 ≤ IntKind.u64.wrap (IntKind.i64.wrap (7 * (i.val : Int))) ∧ 0 ≤ IntKind.i64.wrap (7 * (i.val : Int)) := by decide +kernel
  exact this ⟨i, h⟩
theorem low7 (c : Nat) (h : c < 256) : IntKind.i64.wrap (andK .u8 (c : Int) 127) = ((c % 128 : Nat) : Int) := by
  have : ∀ c : Fin 256, IntKind.i64.wrap (andK .u8 (c.val : Int) 127) = ((c.val % 128 : Nat) : Int) := by decide +kernel
  exact this ⟨c, h⟩
/-- A digit is put on top. -/
theorem put_digit {acc c i : Nat} (hi : i < 9) (hacc : acc < 128 ^ i) (hc : c < 256) :
    orK .i64 (acc : Int) (IntKind.i64.wrap (IntKind.i64.wrap (andK .u8 (c : Int) 127) * 2 ^ (7 * i))) = ((acc + c % 128 * 128 ^ i : Nat) : Int) ∧ acc + c % 128 * 128 ^ i < 128 ^ (i + 1) := by
  have hp : (2 : Nat) ^ (7 * i) = 128 ^ i := by rw [Nat.pow_mul]
  have h9 : 128 ^ (i + 1) ≤ 128 ^ 9 := Nat.pow_le_pow_right (by omega) (by omega)
  have hlt : acc + c % 128 * 128 ^ i < 128 ^ (i + 1) := by
    rw [Nat.pow_succ]
    have h1 : c % 128 * 128 ^ i ≤ 127 * 128 ^ i := Nat.mul_le_mul_right _ (by omega)
    omega
  have h63 : acc + c % 128 * 128 ^ i < 9223372036854775808 := Nat.lt_of_lt_of_le hlt (Nat.le_trans h9 (by decide))
  have hor : acc ||| c % 128 * 128 ^ i = acc + c % 128 * 128 ^ i := by rw [← hp] at hacc ⊢; exact or_digit hacc
  refine ⟨?_, hlt⟩
  have e : (((c % 128 : Nat) : Int)) * 2 ^ (7 * i) = ((c % 128 * 128 ^ i : Nat) : Int) := by rw [← hp]; push_cast; rfl
  rw [low7 c hc, e, wrap_sm _ (by omega) (by omega), orK_nat _ _ (by rw [hor]; exact h63), hor]
theorem take_bl (s : ByteArray) (n : Nat) (h : n ≤ s.size) : bl (s.extract 0 n) = (bl s).take n := by
  unfold bl
  rw [ByteArray.data_extract, Array.toList_extract]
  simp [List.extract]
theorem drop_bl (s : ByteArray) (a : Nat) : bl (s.extract a s.size) = (bl s).drop a := by
  unfold bl
  rw [ByteArray.data_extract, Array.toList_extract]
  have : s.size = s.data.toList.length := by simp
  rw [List.extract, List.take_of_length_le (by rw [List.length_drop, this]; omega)]
theorem bl_inj {a b : ByteArray} (h : bl a = bl b) : a = b := bytes_ext h
theorem bl_app (a b : ByteArray) : bl (a ++ b) = bl a ++ bl b := by unfold bl; rw [ByteArray.data_append]; simp

theorem shr7 (v : Nat) : Int.fdiv (v : Int) (2 ^ (min (Int.toNat 7) IntKind.i64.bits)) = ((v / 128 : Nat) : Int) := by
  have : (2 : Int) ^ (min (Int.toNat 7) IntKind.i64.bits) = 128 := by decide
  rw [this, Int.fdiv_eq_ediv_of_nonneg _ (by omega)]
  omega
theorem hi7 (v : Nat) (h : v < 9223372036854775808) : IntKind.u8.wrap (orK .i64 (andK .i64 (v : Int) 127) 128) = ((v % 128 + 128 : Nat) : Int) := by
  have e := andK_nat v 127 h (by omega)
  have e2 : v &&& 127 = v % 128 := Nat.and_two_pow_sub_one_eq_mod v 7
  rw [e2] at e
  rw [show (127 : Int) = ((127 : Nat) : Int) from rfl, e]
  have : ∀ c : Fin 128, IntKind.u8.wrap (orK .i64 ((c.val : Nat) : Int) 128) = ((c.val + 128 : Nat) : Int) := by decide +kernel
  exact this ⟨v % 128, by omega⟩
theorem enc9 {n : Nat} (h : n < 9223372036854775808) : (enc n).length ≤ 9 := enc_len (by omega) (Nat.lt_of_lt_of_le h (by decide))
theorem pl_sEnc (n : Nat) (h : n < 9223372036854775808) : p_spec_EncodeUvarint (n : Int) = some (ofL (enc n)) := by
  unfold p_spec_EncodeUvarint
  rw [if_neg (by omega)]
  have h9 := enc9 h
  refine iterK_rule (fun d (s : Int × List Int) => ∃ v : Nat, s.1 = (v : Int) ∧ v < 9223372036854775808 ∧ d = (enc v).length ∧ (s.2.map fun x => UInt8.ofNat x.toNat) ++ enc v = enc n) ?_ (enc n).length _ (by unfold NN; omega) ⟨n, rfl, h, rfl, by simp⟩
  rintro d ⟨v2, v3⟩ ⟨v, g1, g2, g3, g4⟩ nx hnx
  dsimp only at g1 g4 hnx ⊢
  subst g1
  have hlen : v3.length ≤ 9 := by
    have := congrArg List.length g4
    simp only [List.length_append, List.length_map] at this
    omega
  by_cases hv : v < 128
  · rw [if_neg (by omega), grd_pos (appOk_of _ _ (by omega))]
    have e : IntKind.u8.wrap (v : Int) = (v : Int) := u8_wrap _ (by omega) (by omega)
    rw [e, bytesOf_rU, List.map_append, ← g4, enc_lo hv]
    rfl
  · rw [if_pos (by omega), grd_pos (appOk_of _ _ (by omega)), shr7, hi7 v g2]
    refine hnx (enc (v / 128)).length _ ?_ ⟨v / 128, rfl, by omega, rfl, ?_⟩
    · rw [g3, enc_hi hv]; simp
    · dsimp only
      rw [← g4, enc_hi hv, List.map_append, List.append_assoc]
      rfl
theorem pl_sDec (s : ByteArray) (hs : s.size ≤ 100000000) : p_spec_DecodeUvarint s = some (decU (bl s)) := by
  unfold p_spec_DecodeUvarint
  rw [grd_pos (by omega)]
  have hl := bl_len s
  refine forI_rule (fun i (v : Int) => ∃ acc : Nat, v = (acc : Int) ∧ acc < 128 ^ i ∧ i ≤ 9 ∧ decN 9 true (bl s) = (match decN (9 - i) (decide (i = 0)) ((bl s).drop i) with
    | some (w, m) => some (acc + w * 128 ^ i, i + m)
    | none => none)) (fun i hi v hv nx hnx => ?_) (fun v hv => ?_) 0 ⟨0, rfl, by simp, by omega, by
      simp only [Nat.sub_zero, decide_true, List.drop_zero, Nat.zero_add, Nat.pow_zero, Nat.mul_one]
      cases decN 9 true (bl s) with
      | none => rfl
      | some p => rfl⟩
  · obtain ⟨acc, rfl, h1, h2, h3⟩ := hv
    have hi' : i < s.size := by omega
    have hib : i < (bl s).length := by omega
    by_cases h9 : i < 9
    · obtain ⟨w1, _, w3, _⟩ := shift_w i h9
      have hc := ((bl s)[i]).toNat_lt
      rw [if_pos (by omega), getB_lt hib, grd_pos w3, w1]
      obtain ⟨p1, p2⟩ := put_digit h9 h1 (c := ((bl s)[i]).toNat) (by omega)
      rw [p1]
      rw [List.drop_eq_getElem_cons hib, show 9 - i = (9 - (i + 1)) + 1 by omega, decN] at h3
      have h63 : acc + ((bl s)[i]).toNat % 128 * 128 ^ i < 9223372036854775808 := Nat.lt_of_lt_of_le p2 (Nat.le_trans (Nat.pow_le_pow_right (by omega) (show i + 1 ≤ 9 by omega)) (by decide))
      by_cases hlt : ((bl s)[i]).toNat < 128
      · rw [if_pos hlt] at h3
        rw [if_pos (by omega), pl_sEnc _ h63, callK_some, wrap_sm _ (by omega) (by omega), grd_pos (by omega), show ((i : Int) + 1).toNat = i + 1 by omega, str_eq]
        have hm : ((bl s)[i]).toNat % 128 = ((bl s)[i]).toNat := Nat.mod_eq_of_lt hlt
        rw [hm] at p2 ⊢
        by_cases hz : i ≠ 0 ∧ ((bl s)[i]).toNat = 0
        · rw [if_pos ⟨by simpa using hz.1, hz.2⟩] at h3
          rw [if_neg]
          · unfold decU
            rw [h3]
          · simp only [decide_eq_true_eq]
            intro he
            have e1 := congrArg bl he
            rw [bl_ofL, show Int.toNat 0 = 0 from rfl, take_bl s (i + 1) (by omega), hz.2] at e1
            have e2 := congrArg List.length e1
            rw [Nat.zero_mul, Nat.add_zero, List.length_take] at e2
            have := enc_len (i := i) (by omega) h1
            omega
        · rw [if_neg (by simpa using hz)] at h3
          have hd := enc_dec h3
          rw [if_pos]
          · unfold decU
            rw [h3]
            push_cast
            rfl
          · simp only [decide_eq_true_eq]
            refine bl_inj ?_
            rw [bl_ofL, show Int.toNat 0 = 0 from rfl, take_bl s (i + 1) (by omega)]
            exact hd.2.1
      · rw [if_neg hlt] at h3
        rw [if_neg (by omega)]
        refine hnx _ ⟨_, rfl, p2, by omega, ?_⟩
        rw [h3, show decide (i + 1 = 0) = false by simp]
        cases decN (9 - (i + 1)) false ((bl s).drop (i + 1)) with
        | none => rfl
        | some p =>
          obtain ⟨w, m⟩ := p
          dsimp only
          congr 2
          · rw [Nat.pow_succ, Nat.add_mul, Nat.add_assoc]
            congr 2
            rw [Nat.mul_comm 128 w, Nat.mul_assoc, Nat.mul_comm 128]
          · omega
    · have : i = 9 := by omega
      subst this
      rw [if_neg (by omega)]
      unfold decU
      rw [h3]
      rfl
  · obtain ⟨acc, rfl, h1, h2, h3⟩ := hv
    have e : (bl s).drop ((s.size : Int).toNat) = [] := List.drop_eq_nil_of_le (by omega)
    unfold decU
    rw [h3, e]
    cases 9 - (s.size : Int).toNat with
    | zero => rfl
    | succ k => rfl

theorem pl_iDec (s : ByteArray) (hs : s.size ≤ 100000000) : p_impl_DecodeUvarint s = some (decU (bl s)) := by
  unfold p_impl_DecodeUvarint
  rw [grd_pos (by omega)]
  have hl := bl_len s
  refine forI_rule (fun i (v : Int) => ∃ acc : Nat, v = (acc : Int) ∧ acc < 128 ^ i ∧ i ≤ 9 ∧ decN 9 true (bl s) = (match decN (9 - i) (decide (i = 0)) ((bl s).drop i) with
    | some (w, m) => some (acc + w * 128 ^ i, i + m)
    | none => none)) (fun i hi v hv nx hnx => ?_) (fun v hv => ?_) 0 ⟨0, rfl, by simp, by omega, by
      simp only [Nat.sub_zero, decide_true, List.drop_zero, Nat.zero_add, Nat.pow_zero, Nat.mul_one]
      cases decN 9 true (bl s) with
      | none => rfl
      | some p => rfl⟩
  · obtain ⟨acc, rfl, h1, h2, h3⟩ := hv
    have hi' : i < s.size := by omega
    have hib : i < (bl s).length := by omega
    by_cases h9 : i < 9
    · obtain ⟨_, w1, _, w3⟩ := shift_w i h9
      have hc := ((bl s)[i]).toNat_lt
      rw [if_pos (by omega), getB_lt hib, grd_pos w3, w1]
      obtain ⟨p1, p2⟩ := put_digit h9 h1 (c := ((bl s)[i]).toNat) (by omega)
      rw [p1]
      rw [List.drop_eq_getElem_cons hib, show 9 - i = (9 - (i + 1)) + 1 by omega, decN] at h3
      have h63 : acc + ((bl s)[i]).toNat % 128 * 128 ^ i < 9223372036854775808 := Nat.lt_of_lt_of_le p2 (Nat.le_trans (Nat.pow_le_pow_right (by omega) (show i + 1 ≤ 9 by omega)) (by decide))
      by_cases hlt : ((bl s)[i]).toNat < 128
      · rw [if_pos hlt] at h3
        rw [if_pos (by omega), wrap_sm (((i : Nat) : Int) + 1) (by omega) (by omega)]
        have hm : ((bl s)[i]).toNat % 128 = ((bl s)[i]).toNat := Nat.mod_eq_of_lt hlt
        rw [hm]
        by_cases hz : i ≠ 0 ∧ ((bl s)[i]).toNat = 0
        · rw [if_pos ⟨by simpa using hz.1, hz.2⟩] at h3
          rw [if_pos (by omega), if_pos (by omega)]
          unfold decU
          rw [h3]
        · rw [if_neg (by simpa using hz)] at h3
          have hr : decU (bl s) = (((acc + ((bl s)[i]).toNat * 128 ^ i : Nat) : Int), (i : Int) + 1, true) := by
            unfold decU
            rw [h3]
            push_cast
            rfl
          rw [hr]
          by_cases h0 : (i : Int) > 0
          · rw [if_pos h0, if_neg (fun hc => hz ⟨by omega, by omega⟩)]
          · rw [if_neg h0]
      · rw [if_neg hlt] at h3
        rw [if_neg (by omega)]
        refine hnx _ ⟨_, rfl, p2, by omega, ?_⟩
        rw [h3, show decide (i + 1 = 0) = false by simp]
        cases decN (9 - (i + 1)) false ((bl s).drop (i + 1)) with
        | none => rfl
        | some p =>
          obtain ⟨w, m⟩ := p
          dsimp only
          congr 2
          · rw [Nat.pow_succ, Nat.add_mul, Nat.add_assoc]
            congr 2
            rw [Nat.mul_comm 128 w, Nat.mul_assoc, Nat.mul_comm 128]
          · omega
    · have : i = 9 := by omega
      subst this
      rw [if_neg (by omega)]
      unfold decU
      rw [h3]
      rfl
  · obtain ⟨acc, rfl, h1, h2, h3⟩ := hv
    have e : (bl s).drop ((s.size : Int).toNat) = [] := List.drop_eq_nil_of_le (by omega)
    unfold decU
    rw [h3, e]
    cases 9 - (s.size : Int).toNat with
    | zero => rfl
    | succ k => rfl

/-! ### Readers -/
abbrev RS := ByteArray × Bool
def numS (r : RS) : Int × RS := match decN 9 true (bl r.1) with
  | some (v, m) => ((v : Int), (r.1.extract m r.1.size, r.2))
  | none => (0, (r.1, true))
def txtS (r : RS) : ByteArray × RS := match decN 9 true (bl r.1) with
  | some (v, m) => if v ≤ r.1.size - m then (r.1.extract m (m + v), (r.1.extract (m + v) r.1.size, r.2)) else (⟨#[]⟩, (r.1, true))
  | none => (⟨#[]⟩, (r.1, true))
theorem ext0 (s : ByteArray) : s.extract 0 s.size = s := bl_inj (by rw [drop_bl, List.drop_zero])
theorem ext_size (s : ByteArray) (a : Nat) : (s.extract a s.size).size = s.size - a := by rw [← bl_len, drop_bl, List.length_drop, bl_len]
theorem pl_sNum (r : RS) (h : r.1.size ≤ 100000000) : p_spec_l25Src_num ⟨r.1, r.2⟩ = some ((numS r).1, ⟨(numS r).2.1, (numS r).2.2⟩) := by
  unfold p_spec_l25Src_num numS
  rw [pl_sDec _ h, callK_some]
  unfold decU
  cases hd : decN 9 true (bl r.1) with
  | none =>
    dsimp only
    rw [if_neg (by decide)]
  | some p =>
    obtain ⟨v, m⟩ := p
    have hm := (enc_dec hd).2.2.2.1
    rw [bl_len] at hm
    dsimp only
    rw [if_pos rfl, grd_pos (by omega)]
    rfl
theorem pl_iNum (r : RS) (h : r.1.size ≤ 100000000) : p_impl_reader_number ⟨r.1, r.2⟩ = some ((numS r).1, ⟨(numS r).2.1, (numS r).2.2⟩) := by
  unfold p_impl_reader_number numS
  rw [pl_iDec _ h, callK_some]
  unfold decU
  cases hd : decN 9 true (bl r.1) with
  | none =>
    dsimp only
    rw [grd_pos (by omega), grd_pos (by omega)]
    have e : r.1.extract (Int.toNat 0) (Int.toNat (r.1.size : Int)) = r.1 := ext0 r.1
    rw [e]
    cases r.2 <;> rfl
  | some p =>
    obtain ⟨v, m⟩ := p
    have hm := (enc_dec hd).2.2.2.1
    rw [bl_len] at hm
    dsimp only
    rw [grd_pos (by omega), grd_pos (by omega)]
    cases r.2 <;> rfl
theorem str_of {s : ByteArray} {v m : Nat} (hm : m ≤ s.size) (hs : s.size ≤ 100000000) (hv : v < 9223372036854775808) {R : Type} (A : Option R) (B : Int → Option R) :
    (if (v : Int) > (IntKind.i64.wrap ((s.size : Int) - (m : Int))) then A else B (IntKind.i64.wrap ((m : Int) + (v : Int)))) = if v ≤ s.size - m then B ((m + v : Nat) : Int) else A := by
  rw [wrap_sm _ (by omega) (by omega)]
  by_cases h : v ≤ s.size - m
  · rw [if_neg (by omega), if_pos h, wrap_sm _ (by omega) (by omega)]
    push_cast
    rfl
  · rw [if_pos (by omega), if_neg h]
theorem pl_sTxt (r : RS) (h : r.1.size ≤ 100000000) : p_spec_l25Src_text ⟨r.1, r.2⟩ = some ((txtS r).1, ⟨(txtS r).2.1, (txtS r).2.2⟩) := by
  unfold p_spec_l25Src_text txtS p_spec_DecodeString
  rw [pl_sDec _ h, callK_some]
  unfold decU
  cases hd : decN 9 true (bl r.1) with
  | none =>
    dsimp only
    rw [if_neg (by decide), callK_some]
    dsimp only
    rw [if_neg (by decide)]
  | some p =>
    obtain ⟨v, m⟩ := p
    obtain ⟨_, _, _, hm, _, hv⟩ := enc_dec hd
    rw [bl_len] at hm
    dsimp only
    rw [if_pos rfl, wrap_sm ((r.1.size : Int) - (m : Int)) (by omega) (by omega)]
    by_cases hc : v ≤ r.1.size - m
    · rw [if_neg (by omega), if_pos hc, wrap_sm _ (by omega) (by omega), grd_pos (by omega), callK_some]
      dsimp only
      rw [if_pos rfl, grd_pos (by omega), show ((m : Int) + (v : Int)).toNat = m + v by omega]
      rfl
    · rw [if_pos (by omega), if_neg hc, callK_some]
      dsimp only
      rw [if_neg (by decide)]
theorem pl_iTxt (r : RS) (h : r.1.size ≤ 100000000) : p_impl_reader_text ⟨r.1, r.2⟩ = some ((txtS r).1, ⟨(txtS r).2.1, (txtS r).2.2⟩) := by
  unfold p_impl_reader_text txtS p_impl_DecodeString
  rw [pl_iDec _ h, callK_some]
  unfold decU
  have e : r.1.extract (Int.toNat 0) (Int.toNat (r.1.size : Int)) = r.1 := ext0 r.1
  cases hd : decN 9 true (bl r.1) with
  | none =>
    dsimp only
    rw [if_neg (by decide), callK_some]
    dsimp only
    rw [grd_pos (by omega), grd_pos (by omega), e]
    cases r.2 <;> rfl
  | some p =>
    obtain ⟨v, m⟩ := p
    obtain ⟨_, _, _, hm, _, hv⟩ := enc_dec hd
    rw [bl_len] at hm
    dsimp only
    rw [if_pos rfl, wrap_sm ((r.1.size : Int) - (m : Int)) (by omega) (by omega)]
    by_cases hc : v ≤ r.1.size - m
    · rw [if_neg (by omega), if_pos hc, wrap_sm _ (by omega) (by omega), grd_pos (by omega), callK_some]
      dsimp only
      rw [grd_pos (by omega), grd_pos (by omega), show ((m : Int) + (v : Int)).toNat = m + v by omega]
      cases r.2 <;> rfl
    · rw [if_pos (by omega), if_neg hc, callK_some]
      dsimp only
      rw [grd_pos (by omega), grd_pos (by omega), e]
      cases r.2 <;> rfl
/-- What has been read. -/
def rmu (r : RS) : Nat := if r.2 = true then 0 else r.1.size + 1
theorem num_ok (r : RS) : ((numS r).2.2 = false → r.2 = false ∧ ∃ v : Nat, (numS r).1 = v ∧ v < 9223372036854775808 ∧ bl r.1 = enc v ++ bl (numS r).2.1) ∧ (numS r).2.1.size ≤ r.1.size ∧ rmu (numS r).2 ≤ rmu r ∧ (r.2 = false → rmu (numS r).2 < rmu r) ∧ 0 ≤ (numS r).1 ∧ (numS r).1 < 9223372036854775808 ∧ (r.2 = true → (numS r).2.2 = true) := by
  unfold numS rmu
  cases hd : decN 9 true (bl r.1) with
  | none =>
    simp
    intro h; rw [h]; simp
  | some p =>
    obtain ⟨v, m⟩ := p
    obtain ⟨_, h1, h2, hm, _, hv⟩ := enc_dec hd
    rw [bl_len] at hm
    have hv' : v < 9223372036854775808 := hv
    dsimp only
    rw [ext_size]
    refine ⟨fun hb => ⟨hb, v, rfl, hv', ?_⟩, by omega, ?_, ?_, by omega, by omega, fun hb => hb⟩
    · rw [drop_bl, h1, List.take_append_drop]
    · cases r.2 <;> simp <;> omega
    · intro hb; rw [hb]; simp; omega
theorem bl_mid (s : ByteArray) (a b : Nat) (h : b ≤ s.size) : bl (s.extract a b) = ((bl s).take b).drop a := by
  unfold bl
  rw [ByteArray.data_extract, Array.toList_extract, List.extract, List.drop_take]
theorem txt_ok (r : RS) : ((txtS r).2.2 = false → r.2 = false ∧ (txtS r).1.size < 9223372036854775808 ∧ bl r.1 = enc (txtS r).1.size ++ bl (txtS r).1 ++ bl (txtS r).2.1) ∧ (txtS r).2.1.size ≤ r.1.size ∧ rmu (txtS r).2 ≤ rmu r ∧ (r.2 = true → (txtS r).2.2 = true) := by
  have bad : txtS r = (⟨#[]⟩, (r.1, true)) → ((txtS r).2.2 = false → r.2 = false ∧ (txtS r).1.size < 9223372036854775808 ∧ bl r.1 = enc (txtS r).1.size ++ bl (txtS r).1 ++ bl (txtS r).2.1) ∧ (txtS r).2.1.size ≤ r.1.size ∧ rmu (txtS r).2 ≤ rmu r ∧ (r.2 = true → (txtS r).2.2 = true) := by
    intro e
    rw [e]
    unfold rmu
    simp
  cases hd : decN 9 true (bl r.1) with
  | none => exact bad (by unfold txtS; rw [hd])
  | some p =>
    obtain ⟨v, m⟩ := p
    obtain ⟨_, h1, h2, hm, _, hv⟩ := enc_dec hd
    rw [bl_len] at hm
    have hv' : v < 9223372036854775808 := hv
    by_cases hc : v ≤ r.1.size - m
    · have e : txtS r = (r.1.extract m (m + v), (r.1.extract (m + v) r.1.size, r.2)) := by
        unfold txtS; rw [hd]; dsimp only; rw [if_pos hc]
      rw [e]
      unfold rmu
      dsimp only
      have hs : (r.1.extract m (m + v)).size = v := by
        rw [← bl_len, bl_mid _ _ _ (by omega), List.length_drop, List.length_take, bl_len]; omega
      rw [ext_size, hs]
      refine ⟨fun hb => ⟨hb, hv', ?_⟩, by omega, ?_, fun hb => hb⟩
      · rw [bl_mid _ _ _ (by omega), drop_bl, h1, List.append_assoc]
        have e1 : ((bl r.1).take (m + v)).drop m ++ (bl r.1).drop (m + v) = (bl r.1).drop m := by
          rw [List.drop_take, show m + v - m = v by omega, ← List.drop_drop]
          exact List.take_append_drop ..
        rw [e1, List.take_append_drop]
      · cases r.2 <;> simp <;> omega
    · exact bad (by unfold txtS; rw [hd]; dsimp only; rw [if_neg hc])
/-- So many, one after the other, till it goes wrong. -/
def rdL {α : Type} (f : RS → α × RS) : Nat → RS → List α × RS
  | 0, r => ([], r)
  | n + 1, r => if r.2 = true then ([], r) else ((f r).1 :: (rdL f n (f r).2).1, (rdL f n (f r).2).2)
structure Rdr {α : Type} (f : RS → α × RS) (e : α → List UInt8) : Prop where
  ok : ∀ r, (f r).2.2 = false → r.2 = false ∧ bl r.1 = e (f r).1 ++ bl (f r).2.1
  size : ∀ r, (f r).2.1.size ≤ r.1.size
  mu : ∀ r, rmu (f r).2 ≤ rmu r
  lt : ∀ r, r.2 = false → rmu (f r).2 < rmu r
  bad : ∀ r, r.2 = true → (f r).2.2 = true
theorem rdL_bad {α : Type} {f : RS → α × RS} : ∀ (n : Nat) (r : RS), r.2 = true → rdL f n r = ([], r)
  | 0, r, h => rfl
  | n + 1, r, h => by rw [rdL, if_pos h]
theorem rdL_ok {α : Type} {f : RS → α × RS} {e : α → List UInt8} (hf : Rdr f e) : ∀ (n : Nat) (r : RS), ((rdL f n r).2.2 = false → r.2 = false ∧ bl r.1 = (rdL f n r).1.flatMap e ++ bl (rdL f n r).2.1 ∧ (rdL f n r).1.length = n) ∧ (rdL f n r).2.1.size ≤ r.1.size ∧ (rdL f n r).1.length + rmu (rdL f n r).2 ≤ rmu r
  | 0, r => by simp [rdL]
  | n + 1, r => by
    by_cases h : r.2 = true
    · rw [rdL_bad _ _ h, h]; simp
    · have h' : r.2 = false := by simpa using h
      obtain ⟨i1, i2, i3⟩ := rdL_ok hf n (f r).2
      rw [rdL, if_neg h]
      dsimp only
      refine ⟨fun hb => ?_, Nat.le_trans i2 (hf.size r), ?_⟩
      · obtain ⟨j1, j2, j3⟩ := i1 hb
        obtain ⟨k1, k2⟩ := hf.ok r j1
        exact ⟨h', by rw [k2, j2, List.flatMap_cons, List.append_assoc], by rw [List.length_cons, j3]⟩
      · have := hf.lt r h'
        rw [List.length_cons]; omega
/-- Fewer read: the same, or it had gone wrong, or there is more. -/
theorem rdL_mono {α : Type} {f : RS → α × RS} {e : α → List UInt8} (hf : Rdr f e) : ∀ {m n : Nat} (r : RS), m ≤ n → (rdL f n r).2.2 = false → (rdL f m r).2.2 = false
  | 0, n, r, _, h => by
    have := ((rdL_ok hf n r).1 h).1
    exact this
  | m + 1, 0, r, hm, _ => by omega
  | m + 1, n + 1, r, hm, h => by
    by_cases hr : r.2 = true
    · rw [rdL_bad _ _ hr] at h
      rw [hr] at h; simp at h
    · rw [rdL, if_neg hr] at h ⊢
      exact rdL_mono hf _ (by omega) h
theorem num_rdr : Rdr (α := Int) numS (fun v => enc v.toNat) := by
  refine ⟨fun r h => ?_, fun r => (num_ok r).2.1, fun r => (num_ok r).2.2.1, fun r => (num_ok r).2.2.2.1, fun r => (num_ok r).2.2.2.2.2.2⟩
  obtain ⟨h1, v, h2, _, h3⟩ := (num_ok r).1 h
  refine ⟨h1, ?_⟩
  rw [h2, h3]; rfl
/-- A table. -/
def tabS (r : RS) : TableRef × RS :=
  let a := numS r
  let b := numS a.2
  let c := numS b.2
  let d := numS c.2
  let e := numS d.2
  let f := txtS e.2
  let g := txtS f.2
  let h := numS g.2
  let i := numS h.2
  let j := numS i.2
  (⟨a.1, b.1, c.1, d.1, e.1, f.1, g.1, h.1, i.1, j.1⟩, j.2)
def encS (s : ByteArray) : List UInt8 := enc s.size ++ bl s
def encT (t : TableRef) : List UInt8 := enc t.Id.toNat ++ enc t.Level.toNat ++ enc t.Zone.toNat ++ enc t.Page.toNat ++ enc t.Pages.toNat ++ encS t.Low ++ encS t.High ++ enc t.First.toNat ++ enc t.Last.toNat ++ enc t.Records.toNat
theorem tab_rdr : Rdr tabS encT := by
  have n := num_rdr
  have t : ∀ r, _ := fun r => txt_ok r
  refine ⟨fun r hb => ?_, fun r => ?_, fun r => ?_, fun r hr => ?_, fun r hr => ?_⟩
  · unfold tabS at hb ⊢
    dsimp only at hb ⊢
    obtain ⟨b9, e9⟩ := n.ok _ hb
    obtain ⟨b8, e8⟩ := n.ok _ b9
    obtain ⟨b7, e7⟩ := n.ok _ b8
    obtain ⟨b6, _, e6⟩ := (t _).1 b7
    obtain ⟨b5, _, e5⟩ := (t _).1 b6
    obtain ⟨b4, e4⟩ := n.ok _ b5
    obtain ⟨b3, e3⟩ := n.ok _ b4
    obtain ⟨b2, e2⟩ := n.ok _ b3
    obtain ⟨b1, e1⟩ := n.ok _ b2
    obtain ⟨b0, e0⟩ := n.ok _ b1
    refine ⟨b0, ?_⟩
    unfold encT encS
    rw [e0, e1, e2, e3, e4, e5, e6, e7, e8, e9]
    simp only [List.append_assoc]
  · unfold tabS
    dsimp only
    exact Nat.le_trans (n.size _) (Nat.le_trans (n.size _) (Nat.le_trans (n.size _) (Nat.le_trans (t _).2.1 (Nat.le_trans (t _).2.1 (Nat.le_trans (n.size _) (Nat.le_trans (n.size _) (Nat.le_trans (n.size _) (Nat.le_trans (n.size _) (n.size _)))))))))
  · unfold tabS
    dsimp only
    exact Nat.le_trans (n.mu _) (Nat.le_trans (n.mu _) (Nat.le_trans (n.mu _) (Nat.le_trans (t _).2.2.1 (Nat.le_trans (t _).2.2.1 (Nat.le_trans (n.mu _) (Nat.le_trans (n.mu _) (Nat.le_trans (n.mu _) (Nat.le_trans (n.mu _) (n.mu _)))))))))
  · unfold tabS
    dsimp only
    exact Nat.lt_of_le_of_lt (Nat.le_trans (n.mu _) (Nat.le_trans (n.mu _) (Nat.le_trans (n.mu _) (Nat.le_trans (t _).2.2.1 (Nat.le_trans (t _).2.2.1 (Nat.le_trans (n.mu _) (Nat.le_trans (n.mu _) (Nat.le_trans (n.mu _) (n.mu _))))))))) (n.lt _ hr)
  · unfold tabS
    dsimp only
    exact n.bad _ (n.bad _ (n.bad _ ((t _).2.2.2 ((t _).2.2.2 (n.bad _ (n.bad _ (n.bad _ (n.bad _ (n.bad _ hr)))))))))
/-! ### The loops -/
theorem rmu_le (r : RS) : rmu r ≤ r.1.size + 1 := by unfold rmu; split <;> omega

/-! ### Tables read -/
theorem tab_size (r : RS) (h : r.1.size ≤ 100000000) : (numS r).2.1.size ≤ 100000000 ∧ (txtS r).2.1.size ≤ 100000000 := ⟨Nat.le_trans (num_ok r).2.1 h, Nat.le_trans (txt_ok r).2.1 h⟩
theorem pl_iTab {R : Type} (r : RS) (h : r.1.size ≤ 100000000) (K : TableRef → Sreader → Option R) :
    (callK (p_impl_reader_number ⟨r.1, r.2⟩) fun y8 =>
        callK (p_impl_reader_number y8.2) fun y9 =>
        callK (p_impl_reader_number y9.2) fun y10 =>
        callK (p_impl_reader_number y10.2) fun y11 =>
        callK (p_impl_reader_number y11.2) fun y12 =>
        callK (p_impl_reader_text y12.2) fun y13 =>
        callK (p_impl_reader_text y13.2) fun y14 =>
        callK (p_impl_reader_number y14.2) fun y15 =>
        callK (p_impl_reader_number y15.2) fun y16 =>
        callK (p_impl_reader_number y16.2) fun y17 =>
        K ⟨y8.1, y9.1, y10.1, y11.1, y12.1, y13.1, y14.1, y15.1, y16.1, y17.1⟩ y17.2) = K (tabS r).1 ⟨(tabS r).2.1, (tabS r).2.2⟩ := by
  have h1 := (tab_size _ h).1
  have h2 := (tab_size _ h1).1
  have h3 := (tab_size _ h2).1
  have h4 := (tab_size _ h3).1
  have h5 := (tab_size _ h4).1
  have h6 := (tab_size _ h5).2
  have h7 := (tab_size _ h6).2
  have h8 := (tab_size _ h7).1
  have h9 := (tab_size _ h8).1
  unfold tabS
  dsimp only
  rw [pl_iNum _ h, callK_some]
  dsimp only
  rw [pl_iNum _ h1, callK_some]
  dsimp only
  rw [pl_iNum _ h2, callK_some]
  dsimp only
  rw [pl_iNum _ h3, callK_some]
  dsimp only
  rw [pl_iNum _ h4, callK_some]
  dsimp only
  rw [pl_iTxt _ h5, callK_some]
  dsimp only
  rw [pl_iTxt _ h6, callK_some]
  dsimp only
  rw [pl_iNum _ h7, callK_some]
  dsimp only
  rw [pl_iNum _ h8, callK_some]
  dsimp only
  rw [pl_iNum _ h9, callK_some]
theorem pl_sTab {R : Type} (r : RS) (h : r.1.size ≤ 100000000) (K : TableRef → Sl25Src → Option R) :
    (callK (p_spec_l25Src_num ⟨r.1, r.2⟩) fun y8 =>
        callK (p_spec_l25Src_num y8.2) fun y9 =>
        callK (p_spec_l25Src_num y9.2) fun y10 =>
        callK (p_spec_l25Src_num y10.2) fun y11 =>
        callK (p_spec_l25Src_num y11.2) fun y12 =>
        callK (p_spec_l25Src_text y12.2) fun y13 =>
        callK (p_spec_l25Src_text y13.2) fun y14 =>
        callK (p_spec_l25Src_num y14.2) fun y15 =>
        callK (p_spec_l25Src_num y15.2) fun y16 =>
        callK (p_spec_l25Src_num y16.2) fun y17 =>
        K ⟨y8.1, y9.1, y10.1, y11.1, y12.1, y13.1, y14.1, y15.1, y16.1, y17.1⟩ y17.2) = K (tabS r).1 ⟨(tabS r).2.1, (tabS r).2.2⟩ := by
  have h1 := (tab_size _ h).1
  have h2 := (tab_size _ h1).1
  have h3 := (tab_size _ h2).1
  have h4 := (tab_size _ h3).1
  have h5 := (tab_size _ h4).1
  have h6 := (tab_size _ h5).2
  have h7 := (tab_size _ h6).2
  have h8 := (tab_size _ h7).1
  have h9 := (tab_size _ h8).1
  unfold tabS
  dsimp only
  rw [pl_sNum _ h, callK_some]
  dsimp only
  rw [pl_sNum _ h1, callK_some]
  dsimp only
  rw [pl_sNum _ h2, callK_some]
  dsimp only
  rw [pl_sNum _ h3, callK_some]
  dsimp only
  rw [pl_sNum _ h4, callK_some]
  dsimp only
  rw [pl_sTxt _ h5, callK_some]
  dsimp only
  rw [pl_sTxt _ h6, callK_some]
  dsimp only
  rw [pl_sNum _ h7, callK_some]
  dsimp only
  rw [pl_sNum _ h8, callK_some]
  dsimp only
  rw [pl_sNum _ h9, callK_some]
theorem pl_iRefs (r : RS) (h : r.1.size ≤ 100000000) : p_impl_reader_refs ⟨r.1, r.2⟩ = some (⟨(rdL tabS (numS r).1.toNat (numS r).2).2.1, (rdL tabS (numS r).1.toNat (numS r).2).2.2⟩, (rdL tabS (numS r).1.toNat (numS r).2).1) := by
  unfold p_impl_reader_refs
  rw [pl_iNum r h, callK_some]
  obtain ⟨_, n2, _, _, n5, n6, _⟩ := num_ok r
  generalize numS r = y at n2 n5 n6
  obtain ⟨n, r⟩ := y
  dsimp only at n2 n5 n6 ⊢
  have hmu := rmu_le r
  refine iterK_rule (fun d (s : Int × Sreader × List TableRef) => ∃ (k : Nat) (q : RS), s.1 = (k : Int) ∧ s.2.1 = ⟨q.1, q.2⟩ ∧ d = rmu q ∧ k < 9223372036854775808 ∧ q.1.size ≤ 100000000 ∧ s.2.2.length + rmu q ≤ 100000001 ∧ rdL tabS n.toNat r = (s.2.2 ++ (rdL tabS k q).1, (rdL tabS k q).2)) ?_ (rmu r) _ (by unfold NN; omega)
    ⟨n.toNat, r, by dsimp only; omega, rfl, rfl, by omega, by omega, by simp; omega, by simp⟩
  rintro d ⟨v1, v2, v3⟩ ⟨k, q, g1, g2, g3, g4, g5, g6, g7⟩ nx hnx
  dsimp only at g1 g2 g6 g7 hnx ⊢
  subst g1 g2
  by_cases hk : (k : Int) > 0
  · obtain ⟨k, rfl⟩ : ∃ j, k = j + 1 := ⟨k - 1, by omega⟩
    rw [if_pos hk]
    by_cases hb : q.2 = true
    · rw [rdL_bad _ _ hb, List.append_nil] at g7
      rw [if_pos hb, g7]
      dsimp only
      rw [hb]
    · have hb' : q.2 = false := by simpa using hb
      rw [rdL, if_neg hb] at g7
      have s1 := tab_rdr.size q
      have s3 := tab_rdr.lt q hb'
      have e2 : ((q.1, false) : RS) = q := by rw [← hb']
      rw [if_neg hb]
      refine (pl_iTab (q.1, false) g5 (fun t y => grd (appOk (v3.length + 1) 96 = true) <| nx ((IntKind.i64.wrap (((k + 1 : Nat) : Int) - 1)), y, (v3 ++ ([t] : List TableRef))))).trans ?_
      rw [e2, grd_pos (appOk_of _ _ (by omega)), wrap_sm (((k + 1 : Nat) : Int) - 1) (by omega) (by omega)]
      refine hnx (rmu (tabS q).2) _ (by omega) ⟨k, (tabS q).2, by dsimp only; omega, rfl, rfl, by omega, by omega, by simp; omega, ?_⟩
      dsimp only
      rw [g7]
      simp
  · have : k = 0 := by omega
    subst this
    rw [if_neg hk, g7]
    simp [rdL]
theorem pl_sTabs (r : RS) (h : r.1.size ≤ 100000000) : p_spec_l25Src_tables ⟨r.1, r.2⟩ = some ((rdL tabS (min (numS r).1.toNat 17) (numS r).2).1, ⟨(rdL tabS (min (numS r).1.toNat 17) (numS r).2).2.1, (rdL tabS (min (numS r).1.toNat 17) (numS r).2).2.2⟩) := by
  unfold p_spec_l25Src_tables
  rw [pl_sNum r h, callK_some]
  obtain ⟨_, n2, _, _, n5, n6, _⟩ := num_ok r
  generalize numS r = y at n2 n5 n6
  obtain ⟨n, r⟩ := y
  dsimp only at n2 n5 n6 ⊢
  have hmu := rmu_le r
  refine iterK_rule (fun d (s : Int × Sl25Src × List TableRef) => ∃ (k : Nat) (q : RS), s.1 = ((min n.toNat 17 - k : Nat) : Int) ∧ k ≤ min n.toNat 17 ∧ s.2.1 = ⟨q.1, q.2⟩ ∧ d = rmu q ∧ q.1.size ≤ 100000000 ∧ s.2.2.length + rmu q ≤ 100000001 ∧ rdL tabS (min n.toNat 17) r = (s.2.2 ++ (rdL tabS k q).1, (rdL tabS k q).2)) ?_ (rmu r) _ (by unfold NN; omega)
    ⟨min n.toNat 17, r, by dsimp only; omega, Nat.le_refl _, rfl, rfl, by omega, by simp; omega, by simp⟩
  rintro d ⟨v1, v2, v3⟩ ⟨k, q, g1, g0, g2, g3, g5, g6, g7⟩ nx hnx
  dsimp only at g1 g2 g6 g7 hnx ⊢
  subst g1 g2
  by_cases hk : k > 0
  · obtain ⟨k, rfl⟩ : ∃ j, k = j + 1 := ⟨k - 1, by omega⟩
    rw [if_pos (by omega), if_pos (by omega)]
    by_cases hb : q.2 = true
    · rw [rdL_bad _ _ hb, List.append_nil] at g7
      rw [if_pos hb, g7]
      dsimp only
      rw [hb]
    · have hb' : q.2 = false := by simpa using hb
      rw [rdL, if_neg hb] at g7
      have s1 := tab_rdr.size q
      have s3 := tab_rdr.lt q hb'
      have e2 : ((q.1, false) : RS) = q := by rw [← hb']
      rw [if_neg hb]
      refine (pl_sTab (q.1, false) g5 (fun t y => grd (appOk (v3.length + 1) 96 = true) <| nx ((IntKind.i64.wrap (((min n.toNat 17 - (k + 1) : Nat) : Int) + 1)), y, (v3 ++ ([t] : List TableRef))))).trans ?_
      rw [e2, grd_pos (appOk_of _ _ (by omega)), wrap_sm (((min n.toNat 17 - (k + 1) : Nat) : Int) + 1) (by omega) (by omega)]
      refine hnx (rmu (tabS q).2) _ (by omega) ⟨k, (tabS q).2, by dsimp only; omega, by omega, rfl, rfl, by omega, by simp; omega, ?_⟩
      dsimp only
      rw [g7]
      simp
  · have : k = 0 := by omega
    subst this
    have hend : ((min n.toNat 17 - 0 : Nat) : Int) < n → ¬ ((min n.toNat 17 - 0 : Nat) : Int) ≤ 16 := by omega
    rw [g7]
    simp only [rdL, List.append_nil]
    by_cases h1 : ((min n.toNat 17 - 0 : Nat) : Int) < n
    · rw [if_pos h1, if_neg (hend h1)]
    · rw [if_neg h1]
/-! ### Encodings -/
theorem cat_ok {R : Type} {a b : ByteArray} (h : a.size + b.size ≤ 9000000000000000000) (x : Option R) : grd (((ByteArray.size a + ByteArray.size b : Nat) : Int) ≤ 9223372036854775807) x = x := grd_pos (by omega) x
theorem pl_sEncI (n : Int) (h : 0 ≤ n ∧ n < 9223372036854775808) : p_spec_EncodeUvarint n = some (ofL (enc n.toNat)) := by
  obtain ⟨m, rfl⟩ := Int.eq_ofNat_of_zero_le h.1
  exact pl_sEnc m (by omega)
theorem ofL_app (a b : List UInt8) : ofL a ++ ofL b = ofL (a ++ b) := bl_inj (by rw [bl_app, bl_ofL, bl_ofL, bl_ofL])
theorem encI_len {n : Int} (h : 0 ≤ n ∧ n < 9223372036854775808) : (enc n.toNat).length ≤ 9 := enc9 (by omega)
theorem pl_sEncS (s : ByteArray) (h : s.size ≤ 100000000) : p_spec_EncodeString s = some (ofL (encS s)) := by
  unfold p_spec_EncodeString
  have h9 := enc9 (n := s.size) (by omega)
  rw [pl_sEnc _ (by omega), callK_some, cat_ok (by rw [size_ofL]; omega)]
  congr 1
structure NumT (t : TableRef) : Prop where
  a : 0 ≤ t.Id ∧ t.Id < 9223372036854775808
  b : 0 ≤ t.Level ∧ t.Level < 9223372036854775808
  c : 0 ≤ t.Zone ∧ t.Zone < 9223372036854775808
  d : 0 ≤ t.Page ∧ t.Page < 9223372036854775808
  e : 0 ≤ t.Pages ∧ t.Pages < 9223372036854775808
  f : t.Low.size ≤ 9
  g : t.High.size ≤ 9
  h : 0 ≤ t.First ∧ t.First < 9223372036854775808
  i : 0 ≤ t.Last ∧ t.Last < 9223372036854775808
  j : 0 ≤ t.Records ∧ t.Records < 9223372036854775808
theorem encS_len {s : ByteArray} (h : s.size ≤ 9) : (encS s).length ≤ 18 := by
  have h9 := enc9 (n := s.size) (by omega)
  unfold encS
  rw [List.length_append, bl_len]; omega
theorem pl_sPutT {l : List TableRef} {n : Nat} {t : TableRef} (hl : l[n]? = some t) (h : NumT t) : p_spec_l25PutTable l n = some (ofL (encT t)) ∧ (encT t).length ≤ 108 := by
  have ha := encI_len h.a; have hb := encI_len h.b; have hc := encI_len h.c; have hd := encI_len h.d; have he := encI_len h.e
  have hf := encS_len h.f; have hg := encS_len h.g; have hh := encI_len h.h; have hi := encI_len h.i; have hj := encI_len h.j
  constructor
  · unfold p_spec_l25PutTable
    rw [getN_pos hl, pl_sEncI _ h.a, callK_some, pl_sEncI _ h.b, callK_some, cat_ok (by rw [size_ofL, size_ofL]; omega), ofL_app, pl_sEncI _ h.c, callK_some, cat_ok (by rw [size_ofL, size_ofL]; simp; omega), ofL_app,
      pl_sEncI _ h.d, callK_some, cat_ok (by rw [size_ofL, size_ofL]; simp; omega), ofL_app, pl_sEncI _ h.e, callK_some, cat_ok (by rw [size_ofL, size_ofL]; simp; omega), ofL_app,
      pl_sEncS _ (by have := h.f; omega), callK_some, cat_ok (by rw [size_ofL, size_ofL]; simp; omega), ofL_app, pl_sEncS _ (by have := h.g; omega), callK_some, cat_ok (by rw [size_ofL, size_ofL]; simp; omega), ofL_app,
      pl_sEncI _ h.h, callK_some, cat_ok (by rw [size_ofL, size_ofL]; simp; omega), ofL_app, pl_sEncI _ h.i, callK_some, cat_ok (by rw [size_ofL, size_ofL]; simp; omega), ofL_app,
      pl_sEncI _ h.j, callK_some, cat_ok (by rw [size_ofL, size_ofL]; simp; omega), ofL_app]
    rfl
  · unfold encT
    simp only [List.length_append]; omega
theorem pl_sPutTs {l : List TableRef} (hl : l.length ≤ 16) (h : ∀ t ∈ l, NumT t) : p_spec_l25PutTables l = some (ofL (enc l.length ++ l.flatMap encT)) ∧ (enc l.length ++ l.flatMap encT).length ≤ 2000 := by
  have h9 := enc9 (n := l.length) (by omega)
  have hlen : ∀ i, i ≤ l.length → ((l.take i).flatMap encT).length ≤ 108 * i := by
    intro i
    induction i with
    | zero => simp
    | succ i ih =>
      intro hi
      have := (pl_sPutT (List.getElem?_eq_getElem (show i < l.length by omega)) (h _ (List.getElem_mem _))).2
      rw [List.take_succ_eq_append_getElem (by omega), List.flatMap_append, List.length_append]
      simp only [List.flatMap_cons, List.flatMap_nil, List.append_nil]
      have := ih (by omega)
      omega
  constructor
  · unfold p_spec_l25PutTables
    rw [pl_sEncI _ ⟨by omega, by omega⟩, callK_some, grd_pos (by omega), show ((l.length : Int)).toNat = l.length by omega]
    refine forK_rule (fun i (v : ByteArray) => v = ofL (enc l.length ++ (l.take i).flatMap encT)) (fun i hi v hv nx hnx => ?_) (fun v hv => by rw [hv, List.take_length]) _ (by simp)
    subst hv
    obtain ⟨e1, e2⟩ := pl_sPutT (List.getElem?_eq_getElem hi) (h _ (List.getElem_mem hi))
    have := hlen i (by omega)
    rw [show ((i : Int)).toNat = i by omega, e1, callK_some, cat_ok (by rw [size_ofL, size_ofL, List.length_append]; omega), ofL_app]
    refine hnx _ ?_
    rw [List.take_succ_eq_append_getElem hi, List.flatMap_append, List.append_assoc]
    simp
  · have := hlen l.length (Nat.le_refl _)
    rw [List.take_length] at this
    rw [List.length_append]; omega

/-! ### Valid tables and edits -/
theorem ifB {b : Bool} {x : Option Bool} {y : Bool} (h : x = some y) : (if b = true then x else some false) = some (b && y) := by subst h; cases b <;> rfl
theorem ifP {p : Prop} [Decidable p] {x : Option Bool} {y : Bool} (h : x = some y) : (if p then x else some false) = some (decide p && y) := by subst h; by_cases hp : p <;> simp [hp]
theorem ifN {n : Int} {x : Option Bool} {y : Bool} (h : x = some y) : (if n > 9 then some false else x) = some (decide (n ≤ 9) && y) := by
  subst h
  by_cases hp : n > 9
  · rw [if_pos hp, decide_eq_false (by omega)]; rfl
  · rw [if_neg hp, decide_eq_true (by omega)]; rfl
def okT (t : TableRef) : Bool := inR t.Id 1 1000000 && (inR t.Level 0 2 && (inR t.Zone 0 11 && (inR t.Page 0 1000 && (inR t.Pages 1 100 && (decide ((ByteArray.size t.Low : Int) ≤ 9) && (decide ((ByteArray.size t.High : Int) ≤ 9) && (Op.bytesLess t.Low.toList t.High.toList && (decide (t.First > 0) && (decide (t.First ≤ t.Last) && (decide (t.Last ≤ 1000000) && inR t.Records 1 60))))))))))
theorem pl_iT (t : TableRef) : p_impl_ValidTable t = some (okT t) := ifB (ifB (ifB (ifB (ifB (ifP (ifP (ifB (ifP (ifP (ifP rfl))))))))))
theorem okT_num {t : TableRef} (h : okT t = true) : NumT t := by
  unfold okT at h
  simp only [Bool.and_eq_true, inR_iff, decide_eq_true_eq] at h
  exact ⟨by omega, by omega, by omega, by omega, by omega, by omega, by omega, by omega, by omega, by omega⟩

/-! ### Marks -/
theorem pl_mText (k : Int) (h : 0 ≤ k ∧ k ≤ 1000000000) : ∃ t, p_laws_markText k = some t := by
  unfold p_laws_markText
  by_cases h0 : k ≤ 0
  · rw [if_pos h0]; exact ⟨_, rfl⟩
  rw [if_neg h0]
  have := iterK_ex (R := ByteArray) (Q := fun _ => True) (f := fun ((v2, v3) : (Int × ByteArray)) (nx4 : (Int × ByteArray) → Option ByteArray) =>
      if v2 > 0 then
        grd (((ByteArray.size (bytesOf ([[.lit (.int .u8 (IntKind.u8.wrap (IntKind.i64.wrap (48 + (Int.tmod v2 10)))))]] : List (List D))) + ByteArray.size v3 : Nat) : Int) ≤ 9223372036854775807) <|
        nx4 ((IntKind.i64.wrap (Int.tdiv v2 10)), ((bytesOf ([[.lit (.int .u8 (IntKind.u8.wrap (IntKind.i64.wrap (48 + (Int.tmod v2 10)))))]] : List (List D))) ++ v3))
      else
        grd (((ByteArray.size (⟨#[109]⟩ : ByteArray) + ByteArray.size v3 : Nat) : Int) ≤ 9223372036854775807) <|
        some ((⟨#[109]⟩ : ByteArray) ++ v3)) (fun d (s : Int × ByteArray) => 0 ≤ s.1 ∧ s.1 ≤ 1000000000 ∧ d = s.1.toNat ∧ s.2.size + s.1.toNat ≤ 1000000000) (fun d s hs nx hnx => by
      obtain ⟨v2, v3⟩ := s
      obtain ⟨g1, g2, g3, g4⟩ := hs
      dsimp only at g1 g2 g3 g4 ⊢
      have hb : ∀ x : Int, (bytesOf ([[.lit (.int .u8 x)]] : List (List D))).size = 1 := fun _ => rfl
      by_cases hc : v2 > 0
      · have hq := Int.tdiv_eq_ediv_of_nonneg (a := v2) (b := 10) (by omega)
        rw [if_pos hc, cat_ok (by rw [hb]; omega), wrap_sm (Int.tdiv v2 10) (by omega) (by omega)]
        refine hnx (Int.tdiv v2 10).toNat _ (by omega) ⟨by dsimp only; omega, by dsimp only; omega, rfl, ?_⟩
        dsimp only
        rw [ByteArray.size_append, hb]; omega
      · rw [if_neg hc, cat_ok (by show 1 + v3.size ≤ _; omega)]
        exact ⟨_, rfl, trivial⟩) k.toNat (k, ⟨#[]⟩) (by unfold NN; omega) ⟨h.1, h.2, rfl, by show 0 + k.toNat ≤ _; omega⟩
  obtain ⟨t, e, _⟩ := this
  exact ⟨t, e⟩
noncomputable def mT (k : Int) : ByteArray := (p_laws_markText k).getD ⟨#[]⟩
theorem mT_ok (k : Int) (h : 0 ≤ k ∧ k ≤ 1000000000) : p_laws_markText k = some (mT k) := by
  obtain ⟨t, e⟩ := pl_mText k h
  unfold mT
  rw [e]; rfl
theorem w1 (k : Int) (h : 0 ≤ k ∧ k ≤ 1000000000) : IntKind.i64.wrap (k + 1) = k + 1 := wrap_sm _ (by omega) (by omega)
noncomputable def mR (k : Int) : TableRef := ⟨k, k + 1, k + 2, k + 3, k + 4, mT (k + 5), mT (k + 6), k + 7, k + 8, k + 9⟩
noncomputable def mTs (k : Int) (n : Nat) : List TableRef := (List.range n).map fun (i : Nat) => mR (k + 10 * (i : Int))
theorem mTs_len (k : Int) (n : Nat) : (mTs k n).length = n := by unfold mTs; simp
theorem mTs_get (k : Int) (n i : Nat) (h : i < n) : (mTs k n)[i]'(by rw [mTs_len]; exact h) = mR (k + 10 * (i : Int)) := by unfold mTs; simp
theorem wk (k : Int) (h : 0 ≤ k ∧ k ≤ 900000000) : IntKind.i64.wrap (k + 1) = k + 1 ∧ IntKind.i64.wrap (k + 2) = k + 2 ∧ IntKind.i64.wrap (k + 3) = k + 3 ∧ IntKind.i64.wrap (k + 4) = k + 4 ∧ IntKind.i64.wrap (k + 5) = k + 5 ∧ IntKind.i64.wrap (k + 6) = k + 6 ∧ IntKind.i64.wrap (k + 7) = k + 7 ∧ IntKind.i64.wrap (k + 8) = k + 8 ∧ IntKind.i64.wrap (k + 9) = k + 9 ∧ IntKind.i64.wrap (k + 10) = k + 10 :=
  ⟨wrap_sm _ (by omega) (by omega), wrap_sm _ (by omega) (by omega), wrap_sm _ (by omega) (by omega), wrap_sm _ (by omega) (by omega), wrap_sm _ (by omega) (by omega), wrap_sm _ (by omega) (by omega), wrap_sm _ (by omega) (by omega), wrap_sm _ (by omega) (by omega), wrap_sm _ (by omega) (by omega), wrap_sm _ (by omega) (by omega)⟩
theorem getK_set {α R : Type} {l : List α} {n : Nat} {x : α} (h : n < l.length) (k : α → Option R) : getK (l.set n x) (n : Int) k = k x := by
  rw [getK_lt (by simpa using h)]
  simp
theorem pl_markT (k : Int) (l : List TableRef) (hk : 0 ≤ k ∧ k ≤ 100000000) (hl : l.length ≤ 1000000) : p_laws_markTableRefS k l = some (k + 10 * l.length, mTs k l.length) := by
  unfold p_laws_markTableRefS
  refine iterK_rule (fun d (s : Int × Int × List TableRef) => ∃ i : Nat, s.1 = k + 10 * i ∧ s.2.1 = i ∧ i + d = l.length ∧ s.2.2.length = l.length ∧ s.2.2.take i = mTs k i) ?_ l.length _ (by unfold NN; omega) ⟨0, by simp, rfl, by omega, rfl, by simp [mTs]⟩
  rintro d ⟨v1, v2, v3⟩ ⟨i, g1, g2, g3, g4, g5⟩ nx hnx
  dsimp only at g1 g2 g4 g5 hnx ⊢
  subst g2
  have hkk : 0 ≤ v1 ∧ v1 ≤ 900000000 := by omega
  obtain ⟨q1, q2, q3, q4, q5, q6, q7, q8, q9, q10⟩ := wk v1 hkk
  by_cases hi : i < l.length
  · have e2 : v1 + 1 + 1 = v1 + 2 := by omega
    have e3 : v1 + 2 + 1 = v1 + 3 := by omega
    have e4 : v1 + 3 + 1 = v1 + 4 := by omega
    have e5 : v1 + 4 + 1 = v1 + 5 := by omega
    have e6 : v1 + 5 + 1 = v1 + 6 := by omega
    have e7 : v1 + 6 + 1 = v1 + 7 := by omega
    have e8 : v1 + 7 + 1 = v1 + 8 := by omega
    have e9 : v1 + 8 + 1 = v1 + 9 := by omega
    have e10 : v1 + 9 + 1 = v1 + 10 := by omega
    have hv : i < v3.length := by omega
    rw [if_pos (by omega), getK_lt hv]
    simp only [Int.toNat_natCast, q1, e2, q2, e3, q3, e4, q4, e5, q5, e6, q6, e7, q7, e8, q8, e9, q9, e10, q10, List.set_set, getK_set hv, mT_ok (v1 + 5) (by omega), mT_ok (v1 + 6) (by omega), callK_some]
    rw [wrap_sm ((i : Int) + 1) (by omega) (by omega)]
    refine hnx (d - 1) _ (by omega) ⟨i + 1, by dsimp only; omega, by dsimp only; omega, by omega, by simpa using g4, ?_⟩
    dsimp only
    rw [List.take_succ_eq_append_getElem (by simp; omega), List.take_set_of_le (by omega), g5]
    unfold mTs
    rw [List.range_succ, List.map_append]
    simp [mR, g1]
  · have : i = l.length := by omega
    subst this
    rw [if_neg (by omega)]
    rw [← g4, List.take_length] at g5
    rw [g5, g4, g1]
theorem pl_heldT (k : Int) (n : Nat) (hk : 0 ≤ k ∧ k ≤ 100000000) (hn : n ≤ 1000000) : p_laws_heldTableRefS (mTs k n) k = some (k + 10 * n) := by
  unfold p_laws_heldTableRefS
  rw [grd_pos (by rw [mTs_len]; omega)]
  refine forK_rule (fun i (v : Int) => v = k + 10 * i) (fun i hi v hv nx hnx => ?_) (fun v hv => by rw [hv, mTs_len]) _ (by simp)
  rw [mTs_len] at hi
  have hkk : 0 ≤ v ∧ v ≤ 900000000 := by omega
  obtain ⟨q1, q2, q3, q4, q5, q6, q7, q8, q9, q10⟩ := wk v hkk
  have e2 : v + 1 + 1 = v + 2 := by omega
  have e3 : v + 2 + 1 = v + 3 := by omega
  have e4 : v + 3 + 1 = v + 4 := by omega
  have e5 : v + 4 + 1 = v + 5 := by omega
  have e6 : v + 5 + 1 = v + 6 := by omega
  have e7 : v + 6 + 1 = v + 7 := by omega
  have e8 : v + 7 + 1 = v + 8 := by omega
  have e9 : v + 8 + 1 = v + 9 := by omega
  have e10 : v + 9 + 1 = v + 10 := by omega
  rw [mTs_get k n i hi, ← hv]
  unfold mR
  simp only [q1, e2, q2, e3, q3, e4, q4, e5, q5, e6, q6, e7, q7, e8, q8, e9, q9, e10, q10, mT_ok (v + 5) (by omega), mT_ok (v + 6) (by omega), callK_some, not_true_eq_false, if_false, beq_self_eq_true, if_true]
  exact hnx _ (by push_cast; omega)
theorem pl_eqT (l : List TableRef) (h : l.length ≤ 200000000) : p_laws_eqTableRefS l l = some true := by
  unfold p_laws_eqTableRefS
  rw [if_neg (by simp), grd_pos (by omega)]
  refine forK_rule (fun _ _ => True) (fun i hi s _ nx hnx => ?_) (fun s _ => rfl) () trivial
  have e : p_laws_eqTableRef l[i] l[i] = some true := by
    unfold p_laws_eqTableRef
    simp
  rw [getK_lt hi, e, callK_some, if_pos rfl]
  exact hnx () trivial

theorem less_cmp : ∀ (x y : List UInt8), Op.bytesLess x y = decide (Lib.compareBytes x y < 0)
  | _, [] => by
    rename_i x
    cases x <;> rfl
  | [], _ :: _ => rfl
  | a :: x, b :: y => by
    rw [Op.bytesLess, Lib.compareBytes, less_cmp x y]
    by_cases h1 : a < b
    · simp [h1]
    · by_cases h2 : b < a
      · have hne : a ≠ b := fun e => by subst e; exact h1 h2
        simp [h1, h2, hne]
      · have he : a = b := by
          have e1 : ¬ a.toNat < b.toNat := fun h => h1 (by rwa [UInt8.lt_iff_toNat_lt])
          have e2 : ¬ b.toNat < a.toNat := fun h => h2 (by rwa [UInt8.lt_iff_toNat_lt])
          exact UInt8.toNat_inj.mp (by omega)
        simp [h1, h2, he]

/-! ### A version is decoded -/
theorem cmpB_less (a b : ByteArray) : cmpB a b < 0 ↔ Op.bytesLess a.toList b.toList = true := by
  rw [less_cmp, decide_eq_true_eq, toList_data, toList_data]; rfl
def cmpN (a b : Int) : Int := if a < b then -1 else if a > b then 1 else 0
theorem pl_cmp (a b : Int) : p_cmp_Compare a b = some (cmpN a b) := by
  unfold p_cmp_Compare p_cmp_isNaN cmpN
  rw [callK_some, callK_some, if_neg (by simp), if_neg (by simp)]
  split
  · rfl
  · split <;> rfl
theorem pl_or2 (a b : Int) : p_cmp_Or ([a, b] : List Int) = some (if a ≠ 0 then a else b) := by
  unfold p_cmp_Or
  rw [grd_pos (by simp)]
  show (if ¬ a = 0 then some a else if ¬ b = 0 then some b else some 0) = _
  by_cases h1 : a = 0 <;> by_cases h2 : b = 0 <;> simp [h1, h2]
theorem cmpN_lt (a b : Int) : cmpN a b < 0 ↔ a < b := by
  unfold cmpN
  split
  · simp; omega
  · split
    · simp; omega
    · simp; omega
def bef (a t : TableRef) : Bool := if ¬ a.Level = t.Level then decide (a.Level < t.Level) else if a.Level = 0 then decide (a.Id > t.Id) else if Op.bytesLess a.Low.toList t.Low.toList = true then (Op.bytesLess a.High.toList t.Low.toList || a.High.toList == t.Low.toList) else false
theorem pl_bef {l : List TableRef} {i j : Nat} (hi : i < l.length) (hj : j < l.length) : p_spec_l25Before l i l j = some (bef l[i] l[j]) := by
  unfold p_spec_l25Before bef
  rw [getN_lt hi, getN_lt hj]
  split
  · rfl
  · split
    · rfl
    · split <;> rfl
theorem cmpN_ne {a b : Int} (h : a ≠ b) : cmpN a b ≠ 0 := by
  unfold cmpN
  split
  · decide
  · split
    · decide
    · omega
theorem pl_cmpR (a t : TableRef) (ht : 0 ≤ t.Level) : ∃ c, p_impl_compareRefs a t = some c ∧ (bef a t = true ↔ c < 0 ∧ (t.Level > 0 → a.Level = t.Level → (Op.bytesLess a.High.toList t.Low.toList || a.High.toList == t.Low.toList) = true)) := by
  by_cases h1 : a.Level = t.Level
  · by_cases h2 : a.Level = 0
    · have e : p_impl_compareRefs a t = some (cmpN t.Id a.Id) := by
        unfold p_impl_compareRefs
        rw [if_pos h1, if_pos h2, pl_cmp, callK_some]
      have hb : bef a t = decide (a.Id > t.Id) := by
        unfold bef
        rw [if_neg (show ¬ ¬ a.Level = t.Level from fun h => h h1), if_pos h2]
      refine ⟨_, e, ?_⟩
      rw [hb, cmpN_lt, decide_eq_true_eq]
      constructor
      · exact fun h => ⟨h, fun h3 => by omega⟩
      · exact fun h => h.1
    · have e : p_impl_compareRefs a t = some (cmpB a.Low t.Low) := by
        unfold p_impl_compareRefs
        rw [if_pos h1, if_neg h2, pl_cmp, callK_some, pl_or2, callK_some]
        have e : cmpN a.Level t.Level = 0 := by rw [h1]; unfold cmpN; simp
        rw [e, if_neg (by simp)]
      have hb : bef a t = if Op.bytesLess a.Low.toList t.Low.toList = true then (Op.bytesLess a.High.toList t.Low.toList || a.High.toList == t.Low.toList) else false := by
        unfold bef
        rw [if_neg (show ¬ ¬ a.Level = t.Level from fun h => h h1), if_neg h2]
      refine ⟨_, e, ?_⟩
      rw [hb, cmpB_less]
      by_cases h3 : Op.bytesLess a.Low.toList t.Low.toList = true
      · rw [if_pos h3]
        constructor
        · exact fun h => ⟨h3, fun _ _ => h⟩
        · exact fun h => h.2 (by omega) h1
      · rw [if_neg h3]
        constructor
        · exact fun h => by simp at h
        · exact fun h => absurd h.1 h3
  · have e : p_impl_compareRefs a t = some (cmpN a.Level t.Level) := by
      unfold p_impl_compareRefs
      rw [if_neg h1, pl_cmp, callK_some, pl_or2, callK_some, if_pos (cmpN_ne h1)]
    have hb : bef a t = decide (a.Level < t.Level) := by
      unfold bef
      rw [if_pos h1]
    refine ⟨_, e, ?_⟩
    rw [hb, cmpN_lt, decide_eq_true_eq]
    constructor
    · exact fun h => ⟨h, fun _ h3 => absurd h3 h1⟩
    · exact fun h => h.1
structure PT (nx ls : Int) (l : List TableRef) (i : Nat) (hi : i < l.length) : Prop where
  ok : okT l[i] = true
  id : l[i].Id < nx
  la : l[i].Last ≤ ls
  un : ∀ j (hj : j < i), (l[j]'(by omega)).Id ≠ l[i].Id
  be : 0 < i → bef (l[i - 1]'(by omega)) l[i] = true
structure OkV (nx lz ls : Int) (l : List TableRef) : Prop where
  n : 1 ≤ nx ∧ nx ≤ 1000000
  z : 0 ≤ lz ∧ lz ≤ 11
  s : 0 ≤ ls ∧ ls ≤ 1000000
  len : l.length ≤ 16
  at_ : ∀ i (hi : i < l.length), PT nx ls l i hi
theorem pl_iVer (nx lz ls : Int) (l : List TableRef) (h1 : l.length ≤ 200000000) : ∃ b, p_impl_ValidVersion ⟨nx, lz, ls, l⟩ = some b ∧ (b = true ↔ OkV nx lz ls l) := by
  unfold p_impl_ValidVersion
  dsimp only
  by_cases c1 : inR nx 1 1000000 = true
  rotate_left
  · rw [if_neg c1]
    exact ⟨false, rfl, ⟨fun h => by simp at h, fun h => absurd (inR_iff.mpr h.n) c1⟩⟩
  rw [if_pos c1]
  by_cases c2 : inR lz 0 11 = true
  rotate_left
  · rw [if_neg c2]
    exact ⟨false, rfl, ⟨fun h => by simp at h, fun h => absurd (inR_iff.mpr h.z) c2⟩⟩
  rw [if_pos c2]
  by_cases c3 : inR ls 0 1000000 = true
  rotate_left
  · rw [if_neg c3]
    exact ⟨false, rfl, ⟨fun h => by simp at h, fun h => absurd (inR_iff.mpr h.s) c3⟩⟩
  rw [if_pos c3]
  suffices h : ∃ b, p_impl_Version_tablesOk ⟨nx, lz, ls, l⟩ = some b ∧ (b = true ↔ OkV nx lz ls l) by
    obtain ⟨b, e, hb⟩ := h
    rw [e, callK_some]
    exact ⟨b, rfl, hb⟩
  unfold p_impl_Version_tablesOk
  dsimp only
  rw [grd_pos (by omega)]
  refine forK_ex (fun i (_ : Unit) => ∀ j (hj : j < l.length), j < i → PT nx ls l j hj) (fun i hi s hs nxt hnx => ?_) (fun s hs => ?_) () (fun j hj h => by omega)
  · have bad : ¬ PT nx ls l i hi → ∃ r, (some false : Option Bool) = some r ∧ (r = true ↔ OkV nx lz ls l) := fun hn => ⟨false, rfl, ⟨fun h => by simp at h, fun h => absurd (h.at_ i hi) hn⟩⟩
    have good : PT nx ls l i hi → ∃ r, nxt () = some r ∧ (r = true ↔ OkV nx lz ls l) := fun hp => hnx () fun j hj hji => by
      by_cases e : j = i
      · subst e; exact hp
      · exact hs j hj (by omega)
    rw [pl_iT, callK_some]
    by_cases d1 : okT l[i] = true
    rotate_left
    · rw [if_neg d1]; exact bad fun h => d1 h.ok
    rw [if_pos d1]
    by_cases d2 : l[i].Id ≥ nx
    · rw [if_pos d2]; exact bad fun h => by have := h.id; omega
    rw [if_neg d2]
    by_cases d3 : l[i].Last > ls
    · rw [if_pos d3]; exact bad fun h => by have := h.la; omega
    rw [if_neg d3, grd_pos (by omega)]
    have hc : p_slices_ContainsFunc_impl_Version_tablesOk_c1 ((l.drop (Int.toNat 0)).take (Int.toNat (i : Int) - Int.toNat 0)) l[i] = some ((l.take i).any fun x => x.Id == l[i].Id) := by
      unfold p_slices_ContainsFunc_impl_Version_tablesOk_c1 p_slices_IndexFunc_impl_Version_tablesOk_c1
      have e : (l.drop (Int.toNat 0)).take (Int.toNat (i : Int) - Int.toNat 0) = l.take i := by simp
      rw [e, grd_pos (by rw [List.length_take]; omega), forK_idx (f := fun x => p_impl_Version_tablesOk_c1 x l[i]) (p := fun x => x.Id == l[i].Id) (fun x => rfl)]
      simp only [callK_some, idxP_any]
    rw [hc, callK_some]
    have hun : ((l.take i).any fun x => x.Id == l[i].Id) = true ↔ ∃ j, ∃ hj : j < i, (l[j]'(by omega)).Id = l[i].Id := by
      rw [List.any_eq_true]
      constructor
      · rintro ⟨x, hx, hx2⟩
        obtain ⟨j, hj, rfl⟩ := List.mem_take_iff_getElem.mp hx
        exact ⟨j, by omega, by simpa using hx2⟩
      · rintro ⟨j, hj, e⟩
        exact ⟨_, List.mem_take_iff_getElem.mpr ⟨j, by omega, rfl⟩, by simpa using e⟩
    by_cases d4 : ((l.take i).any fun x => x.Id == l[i].Id) = true
    · rw [if_pos d4]
      obtain ⟨j, hj, e⟩ := hun.mp d4
      exact bad fun h => h.un j hj e
    rw [if_neg d4]
    have hun2 : ∀ j (hj : j < i), (l[j]'(by omega)).Id ≠ l[i].Id := fun j hj e => d4 (hun.mpr ⟨j, hj, e⟩)
    by_cases d5 : (i : Int) = 0
    · rw [if_pos d5]
      exact good ⟨d1, by omega, by omega, hun2, fun h => by omega⟩
    rw [if_neg d5, wrap_sm _ (by omega) (by omega), show (i : Int) - 1 = ((i - 1 : Nat) : Int) by omega, getK_lt (by omega)]
    have hlv : 0 ≤ l[i].Level := (okT_num d1).b.1
    obtain ⟨c, ec, hb⟩ := pl_cmpR (l[i - 1]'(by omega)) l[i] hlv
    rw [ec, callK_some]
    by_cases d6 : c ≥ 0
    · rw [if_pos d6]; exact bad fun h => by have := (hb.mp (h.be (by omega))).1; omega
    rw [if_neg d6]
    by_cases d7 : l[i].Level > 0
    · rw [if_pos d7]
      by_cases d8 : (l[i - 1]'(by omega)).Level = l[i].Level
      · rw [if_pos d8]
        by_cases d9 : (Op.bytesLess (l[i - 1]'(by omega)).High.toList l[i].Low.toList || (l[i - 1]'(by omega)).High.toList == l[i].Low.toList) = true
        · rw [if_pos d9]
          exact good ⟨d1, by omega, by omega, hun2, fun _ => hb.mpr ⟨by omega, fun _ _ => d9⟩⟩
        · rw [if_neg d9]
          exact bad fun h => d9 ((hb.mp (h.be (by omega))).2 d7 d8)
      · rw [if_neg d8]
        exact good ⟨d1, by omega, by omega, hun2, fun _ => hb.mpr ⟨by omega, fun _ h => absurd h d8⟩⟩
    · rw [if_neg d7]
      exact good ⟨d1, by omega, by omega, hun2, fun _ => hb.mpr ⟨by omega, fun h => absurd h d7⟩⟩
  · refine ⟨_, rfl, ?_⟩
    rw [decide_eq_true_eq]
    constructor
    · exact fun h => ⟨inR_iff.mp c1, inR_iff.mp c2, inR_iff.mp c3, by omega, fun i hi => hs i hi hi⟩
    · exact fun h => by have := h.len; omega
theorem pl_sT1 (l : List TableRef) (i : Nat) (hi : i < l.length) : p_spec_l25Table l i = some (okT l[i]) := by
  unfold p_spec_l25Table
  rw [getN_lt hi]
  exact ifB (ifB (ifB (ifB (ifB (ifN (ifN (ifB (ifP (ifP (ifP rfl))))))))))
theorem pl_sVer (nx lz ls : Int) (l : List TableRef) (h1 : l.length ≤ 200000000) : ∃ b, p_spec_l25Ok ⟨nx, lz, ls, l⟩ = some b ∧ (b = true ↔ OkV nx lz ls l) := by
  unfold p_spec_l25Ok
  dsimp only
  by_cases c1 : inR nx 1 1000000 = true
  rotate_left
  · rw [if_neg c1]
    exact ⟨false, rfl, ⟨fun h => by simp at h, fun h => absurd (inR_iff.mpr h.n) c1⟩⟩
  rw [if_pos c1]
  by_cases c2 : inR lz 0 11 = true
  rotate_left
  · rw [if_neg c2]
    exact ⟨false, rfl, ⟨fun h => by simp at h, fun h => absurd (inR_iff.mpr h.z) c2⟩⟩
  rw [if_pos c2]
  by_cases c3 : inR ls 0 1000000 = true
  rotate_left
  · rw [if_neg c3]
    exact ⟨false, rfl, ⟨fun h => by simp at h, fun h => absurd (inR_iff.mpr h.s) c3⟩⟩
  rw [if_pos c3]
  by_cases c4 : (l.length : Int) > 16
  · rw [if_pos c4]
    exact ⟨false, rfl, ⟨fun h => by simp at h, fun h => by have := h.len; omega⟩⟩
  rw [if_neg c4, grd_pos (by omega)]
  refine forK_ex (fun i (_ : Unit) => ∀ j (hj : j < l.length), j < i → PT nx ls l j hj) (fun i hi s hs nxt hnx => ?_) (fun s hs => ?_) () (fun j hj h => by omega)
  · have bad : ¬ PT nx ls l i hi → ∃ r, (some false : Option Bool) = some r ∧ (r = true ↔ OkV nx lz ls l) := fun hn => ⟨false, rfl, ⟨fun h => by simp at h, fun h => absurd (h.at_ i hi) hn⟩⟩
    have good : PT nx ls l i hi → ∃ r, nxt () = some r ∧ (r = true ↔ OkV nx lz ls l) := fun hp => hnx () fun j hj hji => by
      by_cases e : j = i
      · subst e; exact hp
      · exact hs j hj (by omega)
    rw [show ((i : Int)).toNat = i by omega, pl_sT1 l i hi, callK_some]
    by_cases d1 : okT l[i] = true
    rotate_left
    · rw [if_neg d1]; exact bad fun h => d1 h.ok
    rw [if_pos d1]
    by_cases d2 : l[i].Id ≥ nx
    · rw [if_pos d2]; exact bad fun h => by have := h.id; omega
    rw [if_neg d2]
    by_cases d3 : l[i].Last > ls
    · rw [if_pos d3]; exact bad fun h => by have := h.la; omega
    rw [if_neg d3]
    have uniq : (0 < i → bef (l[i - 1]'(by omega)) l[i] = true) → ∃ r, (grd ((i : Int) < 4611686018427387904) <|
        forI (i : Int) (fun (i55 : Nat) (_ : Unit) (nx56 : Unit → Option Bool) =>
          getK l (i55 : Int) fun x57 =>
          if x57.Id = l[i].Id then
            some false
          else
            nx56 ()) () (fun (_ : Unit) =>
          nxt ())) = some r ∧ (r = true ↔ OkV nx lz ls l) := by
      intro hb
      rw [grd_pos (by omega)]
      refine forI_ex (fun k (_ : Unit) => ∀ j (hj : j < i), j < k → (l[j]'(by omega)).Id ≠ l[i].Id) (fun k hk s2 hs2 nx2 hnx2 => ?_) (fun s2 hs2 => ?_) () (fun j hj h => by omega)
      · rw [getK_lt (by omega)]
        by_cases e : (l[k]'(by omega)).Id = l[i].Id
        · rw [if_pos e]
          exact bad fun h => h.un k (by omega) e
        · rw [if_neg e]
          refine hnx2 () fun j hj hjk => ?_
          by_cases ej : j = k
          · subst ej; exact e
          · exact hs2 j hj (by omega)
      · exact good ⟨d1, by omega, by omega, fun j hj => hs2 j hj (by omega), hb⟩
    by_cases d5 : (i : Int) > 0
    · have hbf := pl_bef (l := l) (i := i - 1) (j := i) (by omega) hi
      rw [if_pos d5, wrap_sm _ (by omega) (by omega), show (i : Int) - 1 = ((i - 1 : Nat) : Int) by omega, getK_lt (by omega), Int.toNat_natCast, hbf, callK_some]
      by_cases d6 : bef (l[i - 1]'(by omega)) l[i] = true
      · rw [if_pos d6]
        exact uniq fun _ => d6
      · rw [if_neg d6]
        exact bad fun h => d6 (h.be (by omega))
    · rw [if_neg d5]
      exact uniq fun h => by omega
  · exact ⟨true, rfl, ⟨fun _ => ⟨inR_iff.mp c1, inR_iff.mp c2, inR_iff.mp c3, by omega, fun i hi => hs i hi hi⟩, fun _ => rfl⟩⟩

def encV (nx lz ls : Int) (l : List TableRef) : List UInt8 := 1 :: (enc nx.toNat ++ enc lz.toNat ++ enc ls.toNat ++ (enc l.length ++ l.flatMap encT))
theorem pl_sEncV {nx lz ls : Int} {l : List TableRef} (h : OkV nx lz ls l) : p_spec_EncodeVersion ⟨nx, lz, ls, l⟩ = some (ofL (encV nx lz ls l)) := by
  unfold p_spec_EncodeVersion
  have ha := h.len
  obtain ⟨b, e, hb⟩ := pl_sVer nx lz ls l (by omega)
  have hn := h.n
  have hz := h.z
  have hs := h.s
  have l0 := encI_len (n := nx) ⟨by omega, by omega⟩
  have l1 := encI_len (n := lz) ⟨by omega, by omega⟩
  have l2 := encI_len (n := ls) ⟨by omega, by omega⟩
  obtain ⟨t1, t2⟩ := pl_sPutTs ha fun t ht => by
    obtain ⟨j, hj, rfl⟩ := List.mem_iff_getElem.mp ht
    exact okT_num (h.at_ j hj).ok
  dsimp only
  rw [e, callK_some, if_pos (hb.mpr h), pl_sEncI nx ⟨by omega, by omega⟩, callK_some, show (⟨#[1]⟩ : ByteArray) = ofL [1] from rfl, cat_ok (by rw [size_ofL, size_ofL]; simp; omega), ofL_app, pl_sEncI lz ⟨by omega, by omega⟩, callK_some, cat_ok (by rw [size_ofL, size_ofL]; simp; omega), ofL_app,
    pl_sEncI ls ⟨by omega, by omega⟩, callK_some, cat_ok (by rw [size_ofL, size_ofL]; simp; omega), ofL_app, t1, callK_some, cat_ok (by rw [size_ofL, size_ofL]; simp only [List.length_append, List.length_cons, List.length_nil] at t2 ⊢; omega), ofL_app]
  unfold encV
  simp
structure Dec (s : ByteArray) (ok : Bool) (nx lz ls : Int) (l : List TableRef) : Prop where
  sp : p_spec_DecodeVersion s = some (⟨nx, lz, ls, l⟩, ok)
  im : p_impl_DecodeVersion s = some (nx, lz, ls, ok, l)
  al : l.length ≤ 16
theorem head_bl {s : ByteArray} (h : s ≠ ⟨#[]⟩) : ∃ c l, bl s = c :: l := by
  cases hb : bl s with
  | nil => exact absurd (bl_inj (b := ⟨#[]⟩) (by rw [hb]; rfl)) h
  | cons c l => exact ⟨c, l, rfl⟩
theorem pl_cut (s : ByteArray) (hs : s.size ≤ 1048576) : ∃ q b, p_strings_CutPrefix s (⟨#[1]⟩ : ByteArray) = some (q, b) ∧ q.size ≤ 1048576 ∧ (b = true ↔ ∃ l, bl s = 1 :: l) ∧ (b = true → q = s.extract 1 s.size) := by
  unfold p_strings_CutPrefix p_internal_stringslite_CutPrefix p_internal_stringslite_HasPrefix
  have h1 : ((ByteArray.size (⟨#[1]⟩ : ByteArray) : Nat) : Int) = 1 := rfl
  rw [h1]
  by_cases hp : (s.size : Int) ≥ 1
  · rw [if_pos hp, grd_pos (by omega), callK_some, show ((1 : Int)).toNat = 1 from rfl, show ((0 : Int)).toNat = 0 from rfl, str_eq]
    have hex : (s.extract 0 1 = ⟨#[1]⟩) ↔ ∃ l, bl s = 1 :: l := by
      constructor
      · intro e
        have := congrArg bl e
        rw [take_bl s 1 (by omega)] at this
        cases hb : bl s with
        | nil => rw [hb] at this; simp [bl] at this
        | cons c l =>
          rw [hb] at this
          have hc : [c] = [1] := this
          simp only [List.cons.injEq, and_true] at hc
          exact ⟨l, by rw [hc]⟩
      · rintro ⟨l, e⟩
        refine bl_inj ?_
        rw [take_bl s 1 (by omega), e]; rfl
    by_cases hc : s.extract 0 1 = ⟨#[1]⟩
    · rw [if_pos (by simpa using hc), grd_pos (by omega), callK_some]
      exact ⟨_, _, rfl, by show (s.extract 1 s.size).size ≤ _; rw [ext_size]; omega, ⟨fun _ => hex.mp hc, fun _ => rfl⟩, fun _ => rfl⟩
    · rw [if_neg (by simpa using hc), callK_some]
      exact ⟨_, _, rfl, hs, ⟨fun h => by simp at h, fun h => absurd (hex.mpr h) hc⟩, fun h => by simp at h⟩
  · rw [if_neg hp, callK_some, if_neg (by decide), callK_some]
    refine ⟨_, _, rfl, hs, ⟨fun h => by simp at h, fun ⟨l, e⟩ => ?_⟩, fun h => by simp at h⟩
    have := congrArg List.length e
    rw [bl_len] at this
    simp at this
    omega
theorem pl_dec (s : ByteArray) (hs : s.size ≤ 1048576) : ∃ ok nx lz ls l, Dec s ok nx lz ls l := by
  obtain ⟨q, pb, ec, hq, hpb, hqe⟩ := pl_cut s hs
  let r0 : RS := (q, false)
  let y1 := numS r0
  let y2 := numS y1.2
  let y3 := numS y2.2
  let y5 := numS y3.2
  let A := rdL tabS y5.1.toNat y5.2
  let A' := rdL tabS (min y5.1.toNat 17) y5.2
  have z0 : r0.1.size ≤ 1048576 := hq
  have z1 : y1.2.1.size ≤ 1048576 := Nat.le_trans (num_ok r0).2.1 z0
  have z2 : y2.2.1.size ≤ 1048576 := Nat.le_trans (num_ok y1.2).2.1 z1
  have z3 : y3.2.1.size ≤ 1048576 := Nat.le_trans (num_ok y2.2).2.1 z2
  have z5 : y5.2.1.size ≤ 1048576 := Nat.le_trans (num_ok y3.2).2.1 z3
  have hA := rdL_ok tab_rdr y5.1.toNat y5.2
  have hA' := rdL_ok tab_rdr (min y5.1.toNat 17) y5.2
  have m5 := rmu_le y5.2
  have al : A.1.length ≤ 1048577 := by have := hA.2.2; show (rdL tabS y5.1.toNat y5.2).1.length ≤ _; omega
  have al' : A'.1.length ≤ 1048577 := by have := hA'.2.2; show (rdL tabS (min y5.1.toNat 17) y5.2).1.length ≤ _; omega
  obtain ⟨bi, ei, hbi⟩ := pl_iVer y1.1 y2.1 y3.1 A.1 (by omega)
  obtain ⟨bs, es, hbs⟩ := pl_sVer y1.1 y2.1 y3.1 A'.1 (by omega)
  have impl : p_impl_DecodeVersion s = if pb = true ∧ A.2.2 = false ∧ A.2.1 = ⟨#[]⟩ ∧ bi = true then some (y1.1, y2.1, y3.1, true, A.1) else some (0, 0, 0, false, []) := by
    unfold p_impl_DecodeVersion
    rw [ec, callK_some]
    dsimp only
    rw [pl_iNum r0 (by omega), callK_some, pl_iNum y1.2 (by omega), callK_some, pl_iNum y2.2 (by omega), callK_some, pl_iRefs y3.2 (by omega), callK_some]
    by_cases h1 : pb = true
    · rw [if_pos h1]
      unfold p_impl_reader_done
      by_cases h2 : A.2.2 = true
      · rw [if_pos h2, callK_some]
        dsimp only
        rw [if_neg (show ¬ (false = true) by decide), if_neg (fun h => by have := h.2.1; rw [h2] at this; simp at this)]
      · have h2' : A.2.2 = false := by simpa using h2
        rw [if_neg h2, callK_some]
        dsimp only
        rw [str_eq]
        by_cases h3 : A.2.1 = ⟨#[]⟩
        · rw [if_pos (by simpa using h3)]
          rw [show (rdL tabS (numS y3.2).1.toNat (numS y3.2).2).1 = A.1 from rfl, ei, callK_some]
          by_cases h4 : bi = true
          · rw [if_pos h4, if_pos ⟨h1, h2', h3, h4⟩]
          · rw [if_neg h4, if_neg (fun h => h4 h.2.2.2)]
        · rw [if_neg (by simpa using h3), if_neg (fun h => h3 h.2.2.1)]
    · rw [if_neg h1, if_neg (fun h => h1 h.1)]
  have spec : p_spec_DecodeVersion s = if pb = true ∧ A'.2.2 = false ∧ bs = true ∧ ofL (encV y1.1 y2.1 y3.1 A'.1) = s then some (⟨y1.1, y2.1, y3.1, A'.1⟩, true) else some (⟨0, 0, 0, []⟩, false) := by
    unfold p_spec_DecodeVersion
    rw [str_eq]
    by_cases h0 : s = ⟨#[]⟩
    · rw [if_pos (by simpa using h0), if_neg]
      rintro ⟨h, _⟩
      obtain ⟨l, e⟩ := hpb.mp h
      rw [h0] at e
      simp [bl] at e
    · rw [if_neg (by simpa using h0)]
      obtain ⟨c, l, hcl⟩ := head_bl h0
      have hsz : 1 ≤ s.size := by have := congrArg List.length hcl; rw [bl_len] at this; simp at this; omega
      have hg : ∀ (K : Int → Option (Version × Bool)), getB s 0 K = K (c.toNat : Int) := fun K => by
        have := getB_lt (s := s) (n := 0) (by rw [bl_len]; omega) K
        rw [show ((0 : Nat) : Int) = 0 from rfl] at this
        rw [this]
        simp only [hcl, List.getElem_cons_zero]
      rw [hg]
      by_cases hc : (c.toNat : Int) = 1
      rotate_left
      · rw [if_pos hc, if_neg]
        rintro ⟨h, _⟩
        obtain ⟨l', e⟩ := hpb.mp h
        rw [hcl] at e
        have := (List.cons.inj e).1
        subst this
        exact hc rfl
      · have hc2 : c = 1 := by
          have : c.toNat = 1 := by omega
          exact UInt8.toNat.inj this
        have hp : pb = true := hpb.mpr ⟨l, by rw [hcl, hc2]⟩
        have hqs := hqe hp
        rw [if_neg (fun h => h hc), grd_pos (by omega), show ((1 : Int)).toNat = 1 from rfl, Int.toNat_natCast, ← hqs]
        rw [pl_sNum r0 (by omega), callK_some]
        dsimp only
        rw [pl_sNum y1.2 (by omega), callK_some]
        dsimp only
        rw [pl_sNum y2.2 (by omega), callK_some]
        dsimp only
        rw [pl_sTabs y3.2 (by omega), callK_some]
        dsimp only
        rw [show rdL tabS (min (numS y3.2).1.toNat 17) (numS y3.2).2 = A' from rfl]
        by_cases h2 : A'.2.2 = true
        · rw [if_pos h2, if_neg (fun h => by have := h.2.1; rw [h2] at this; simp at this)]
        · have h2' : A'.2.2 = false := by simpa using h2
          rw [if_neg h2, es, callK_some]
          by_cases h4 : bs = true
          · rw [if_pos h4, pl_sEncV (hbs.mp h4), callK_some, str_eq]
            by_cases h5 : ofL (encV y1.1 y2.1 y3.1 A'.1) = s
            · rw [if_pos (by simpa using h5), if_pos ⟨hp, h2', h4, h5⟩]
            · rw [if_neg (by simpa using h5), if_neg (fun h => h5 h.2.2.2)]
          · rw [if_neg h4, if_neg (fun h => h4 h.2.2.1)]
  have cons : A'.2.2 = false → bl q = enc y1.1.toNat ++ enc y2.1.toNat ++ enc y3.1.toNat ++ (enc y5.1.toNat ++ (A'.1.flatMap encT ++ bl A'.2.1)) ∧ A'.1.length = min y5.1.toNat 17 := by
    intro h
    obtain ⟨a1, a2, a3⟩ := hA'.1 h
    obtain ⟨b1, b2⟩ := num_rdr.ok _ a1
    obtain ⟨d1, d2⟩ := num_rdr.ok _ b1
    obtain ⟨e1, e2⟩ := num_rdr.ok _ d1
    obtain ⟨f1, f2⟩ := num_rdr.ok _ e1
    refine ⟨?_, a3⟩
    have f2' : bl q = enc y1.1.toNat ++ bl y1.2.1 := f2
    have e2' : bl y1.2.1 = enc y2.1.toNat ++ bl y2.2.1 := e2
    have d2' : bl y2.2.1 = enc y3.1.toNat ++ bl y3.2.1 := d2
    have b2' : bl y3.2.1 = enc y5.1.toNat ++ bl y5.2.1 := b2
    have a2' : bl y5.2.1 = A'.1.flatMap encT ++ bl A'.2.1 := a2
    rw [f2', e2', d2', b2', a2']
    simp only [List.append_assoc]
  by_cases hX : pb = true ∧ A'.2.2 = false ∧ bs = true ∧ A'.2.1 = ⟨#[]⟩
  · obtain ⟨x1, x2, x3, x4⟩ := hX
    obtain ⟨k1, k2⟩ := cons x2
    have hok := hbs.mp x3
    have h16 := hok.len
    have hn : y5.1.toNat ≤ 16 := by omega
    have hAA : A = A' := by show rdL tabS y5.1.toNat y5.2 = rdL tabS (min y5.1.toNat 17) y5.2; rw [Nat.min_eq_left (by omega)]
    have hbi' : bi = true := hbi.mpr (by rw [hAA]; exact hok)
    have henc : ofL (encV y1.1 y2.1 y3.1 A'.1) = s := by
      obtain ⟨l, hl⟩ := hpb.mp x1
      refine bl_inj ?_
      have hq2 := hqe x1
      have hbq : bl q = l := by rw [hq2, drop_bl, hl]; rfl
      rw [bl_ofL, hl, ← hbq, k1, x4]
      unfold encV
      rw [k2, Nat.min_eq_left (by omega)]
      simp [bl]
    refine ⟨true, y1.1, y2.1, y3.1, A.1, ?_, ?_, by rw [hAA]; omega⟩
    · rw [spec, if_pos ⟨x1, x2, x3, henc⟩, hAA]
    · rw [impl, if_pos ⟨x1, by rw [hAA]; exact x2, by rw [hAA]; exact x4, hbi'⟩]
  · refine ⟨false, 0, 0, 0, [], ?_, ?_, by simp⟩
    · rw [spec, if_neg]
      rintro ⟨x1, x2, x3, x5⟩
      refine hX ⟨x1, x2, x3, ?_⟩
      obtain ⟨k1, k2⟩ := cons x2
      have h16 := (hbs.mp x3).len
      obtain ⟨l, hl⟩ := hpb.mp x1
      have hq2 := hqe x1
      have hbq : bl q = l := by rw [hq2, drop_bl, hl]; rfl
      have e1 := congrArg bl x5
      rw [bl_ofL, hl, ← hbq, k1] at e1
      have e2 := congrArg List.length e1
      unfold encV at e2
      rw [k2, Nat.min_eq_left (by omega)] at e2
      simp only [List.length_cons, List.length_append] at e2
      have : (bl A'.2.1).length = 0 := by omega
      exact bl_inj (List.eq_nil_of_length_eq_zero this)
    · rw [impl, if_neg]
      rintro ⟨x1, x2, x4, x3⟩
      have hok := hbi.mp x3
      have h16 := hok.len
      obtain ⟨_, _, a3⟩ := hA.1 x2
      have a3' : A.1.length = y5.1.toNat := a3
      have hn : y5.1.toNat ≤ 16 := by omega
      have hAA : A = A' := by show rdL tabS y5.1.toNat y5.2 = rdL tabS (min y5.1.toNat 17) y5.2; rw [Nat.min_eq_left (by omega)]
      rw [hAA] at x2 x4 hok
      exact hX ⟨x1, x2, hbs.mpr hok, x4⟩
theorem pl_law (s : ByteArray) : p_laws_FnExactDecodeVersion s = some true := by
  unfold p_laws_FnExactDecodeVersion
  by_cases hc : (s.size : Int) > 1048576
  · rw [if_pos hc]
  rw [if_neg hc]
  obtain ⟨ok, nx, lz, ls, l, hd⟩ := pl_dec s (by omega)
  have h2 := hd.al
  have heq : p_laws_eqVersion ⟨nx, lz, ls, l⟩ ⟨nx, lz, ls, l⟩ = some true := by
    unfold p_laws_eqVersion
    dsimp only
    rw [if_neg (by simp), if_neg (by simp), if_neg (by simp), pl_eqT _ (by omega), callK_some, if_pos rfl]
  have hmark : p_laws_markVersion nx lz ls 1 l = some ((1 : Int) + 10 * (l.length : Int), mTs 1 l.length) := by
    unfold p_laws_markVersion
    rw [pl_markT _ _ (by omega) (by omega), callK_some]
  have hheld : p_laws_heldVersion ⟨nx, lz, ls, mTs 1 l.length⟩ 1 = some ((1 : Int) + 10 * (l.length : Int)) := by
    unfold p_laws_heldVersion
    dsimp only
    rw [pl_heldT _ _ (by omega) (by omega), callK_some, if_neg (by omega)]
  rw [hd.sp, callK_some, hd.im, callK_some]
  dsimp only
  rw [heq, callK_some, if_pos rfl, if_pos (by simp), hmark, callK_some]
  dsimp only
  rw [hheld, callK_some, if_neg (by omega), if_neg (by simp), callK_some]
  dsimp only
  rw [heq, callK_some, if_pos rfl, if_pos (by simp), callK_some, if_neg (by omega), if_neg (by simp)]
theorem f_law (s : ByteArray) (hk : okS s) : callL E 7 [ST s] [] = some (BO true, []) := L_laws_FnExactDecodeVersion s (pl_law s)


end Go.Proofs.Ytjphojijobhdiaa.T05

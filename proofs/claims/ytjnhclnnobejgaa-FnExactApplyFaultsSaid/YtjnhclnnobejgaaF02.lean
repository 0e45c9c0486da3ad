/- FnExactApplyFaults: what its functions come to, and the row; conditions: none. -/
-- nst impl.Block
import Derived.Test.YtjnhclnnobejgaaT02
import Derived.Test.YtjnhclnnobejgaaEz
import Derived.Test.YtjnhclnnobejgaaRows
import Derived.WalkKit
import Derived.ProofKit
import Derived.OpenShut
import Derived.ShutString
import Derived.ChangeOld
import Derived.Below
import Derived.SizedLaws
namespace Go.Proofs.Ytjnhclnnobejgaa.T02
open Go.Proofs.YtjnhclnnobejgaaE
set_option maxRecDepth 100000
set_option linter.unusedVariables false
set_option linter.unusedSimpArgs false

noncomputable def p_spec_l00In (a_0 : Int) (a_1 : Int) (a_2 : Int) : Option Bool :=
  if a_0 ≥ a_1 then
    some (decide (a_0 ≤ a_2))
  else
    some false

set_option maxHeartbeats 4000000 in
theorem L_spec_l00In (a_0 : Int) (a_1 : Int) (a_2 : Int) {r : Bool} (h : p_spec_l00In a_0 a_1 a_2 = some r) : callL E 142 [IN a_0, IN a_1, IN a_2] ([] : Fo) = some (BO r, ([] : Fo)) := by
  unfold p_spec_l00In at h
  refine callW (fu := Try.f142) rfl rfl rfl NN ?_
  intro lp cl hlp hcl
  conv => lhs; whnf
  cases hb1 : (decide (a_0 ≥ a_1))
  · replace h := ifF h (decF hb1); conv => lhs; whnf
    try (rw [hb1]; conv => lhs; whnf)
    try (rw [hb1]; conv => lhs; whnf)
    try (rw [hb1]; conv => lhs; whnf)
    obtain rfl := Option.some.inj h; show _ = _; kernel_rfl

  · replace h := ifT h (decT hb1); conv => lhs; whnf
    try (rw [hb1]; conv => lhs; whnf)
    try (rw [hb1]; conv => lhs; whnf)
    try (rw [hb1]; conv => lhs; whnf)
    obtain rfl := Option.some.inj h; show _ = _; kernel_rfl

theorem pl_l00In (n lo hi : Int) : p_spec_l00In n lo hi = some (inR n lo hi) := by
  unfold p_spec_l00In inR
  split
  · rename_i h; simp [h]
  · rename_i h; simp [h]


noncomputable def p_impl_within (a_0 : Int) (a_1 : Int) (a_2 : Int) : Option Bool :=
  if a_0 ≥ a_1 then
    some (decide (a_0 ≤ a_2))
  else
    some false

set_option maxHeartbeats 4000000 in
theorem L_impl_within (a_0 : Int) (a_1 : Int) (a_2 : Int) {r : Bool} (h : p_impl_within a_0 a_1 a_2 = some r) : callL E 157 [IN a_0, IN a_1, IN a_2] ([] : Fo) = some (BO r, ([] : Fo)) := by
  unfold p_impl_within at h
  refine callW (fu := Try.f157) rfl rfl rfl NN ?_
  intro lp cl hlp hcl
  conv => lhs; whnf
  cases hb1 : (decide (a_0 ≥ a_1))
  · replace h := ifF h (decF hb1); conv => lhs; whnf
    try (rw [hb1]; conv => lhs; whnf)
    try (rw [hb1]; conv => lhs; whnf)
    try (rw [hb1]; conv => lhs; whnf)
    obtain rfl := Option.some.inj h; show _ = _; kernel_rfl

  · replace h := ifT h (decT hb1); conv => lhs; whnf
    try (rw [hb1]; conv => lhs; whnf)
    try (rw [hb1]; conv => lhs; whnf)
    try (rw [hb1]; conv => lhs; whnf)
    obtain rfl := Option.some.inj h; show _ = _; kernel_rfl

theorem pl_within (n lo hi : Int) : p_impl_within n lo hi = some (inR n lo hi) := by
  unfold p_impl_within inR
  split
  · rename_i h; simp [h]
  · rename_i h; simp [h]



noncomputable def p_laws_szStringS (a_0 : List ByteArray) (a_1 : Int) : Option Int :=
  if (IntKind.i64.wrap (a_1 - (a_0.length : Int))) < 0 then
    some (-1)
  else
    grd (a_0.length < 4611686018427387904) <|
    forK a_0 (fun (i7 : Nat) x10 (v8 : Int) (nx9 : Int → Option _) =>
      if (IntKind.i64.wrap (v8 - (ByteArray.size x10 : Int))) < 0 then
        some (-1)
      else
        nx9 (IntKind.i64.wrap (v8 - (ByteArray.size x10 : Int)))) (IntKind.i64.wrap (a_1 - (a_0.length : Int))) (fun (v8 : Int) =>
      some v8)

set_option maxHeartbeats 4000000 in
theorem L_laws_szStringS (a_0 : List ByteArray) (a_1 : Int) {r : Int} (h : p_laws_szStringS a_0 a_1 = some r) : callL E 273 [.d (.arr (a_0.map rS)), IN a_1] ([] : Fo) = some (IN r, ([] : Fo)) := by
  unfold p_laws_szStringS at h
  refine callW (fu := Try.f273) rfl rfl rfl NN ?_
  intro lp cl hlp hcl
  conv => lhs; whnf
  try rw [len_of (l := a_0) (r := rS)]
  cases hb1 : (decide ((IntKind.i64.wrap (a_1 - (a_0.length : Int))) < 0))
  · replace h := ifF h (decF hb1); conv => lhs; whnf
    obtain ⟨hl_i7, h⟩ := grd_inv h
    refine loop_for hlp (l := a_0) hl_i7 (fun (i7 : Nat) (v8 : Int) => ([.d (.arr (a_0.map rS)), IN v8, .dead, .dead, .dead, IN (i7 : Int)] ++ List.replicate 22 .dead : List V)) (fun (i7 : Nat) (v8 : Int) => ([] : Fo)) (fun (r : Int) => ((IN r : V), ([] : Fo))) ?_ ?_ (IntKind.i64.wrap (a_1 - (a_0.length : Int))) _ (fun kk => by kernel_rfl) h
    · clear h
      rintro next_nx9 nx9 i7 hi_i7 hnx9 v8 r h
      try dsimp only at h
      have hn_i7 : i7 < 4611686018427387904 := by omega
      have hx_x10 := get_map rS a_0 i7 hi_i7
      generalize a_0[i7] = x10 at h hx_x10
      have hd_i7 : (decide ((i7 : Int) < (a_0.length : Int))) = true := decide_eq_true (by omega)
      conv => lhs; whnf
      try rw [len_of (l := a_0) (r := rS)]
      rw [hd_i7]
      conv => lhs; whnf
      try (rw [decide_eq_true hq_x10]; conv => lhs; whnf)
      rw [hx_x10]
      conv => lhs; whnf
      rw [hx_x10]
      conv => lhs; whnf
      cases hb11 : (decide ((IntKind.i64.wrap (v8 - (ByteArray.size x10 : Int))) < 0))
      · replace h := ifF h (decF hb11); conv => lhs; whnf
        rw [wrap_nat i7 (by have := hn_i7; omega)]
        exact hnx9 _ _ _ _ (fun kk => by kernel_rfl) h
      · replace h := ifT h (decT hb11); conv => lhs; whnf
        obtain rfl := Option.some.inj h; show _ = _; kernel_rfl

    · clear h
      rintro next_nx9 v8 r h
      try dsimp only at h
      have hd_i7 : (decide ((a_0.length : Int) < (a_0.length : Int))) = false := decide_eq_false (by omega)
      conv => lhs; whnf
      try rw [len_of (l := a_0) (r := rS)]
      rw [hd_i7]
      conv => lhs; whnf
      obtain rfl := Option.some.inj h; show _ = _; kernel_rfl

  · replace h := ifT h (decT hb1); conv => lhs; whnf
    obtain rfl := Option.some.inj h; show _ = _; kernel_rfl


noncomputable def p_laws_szBlock (a_0 : Block) (a_1 : Int) : Option Int :=
  callK (p_laws_szStringS a_0.Pages a_1) fun y1 =>
  if y1 < 0 then
    some (-1)
  else
    some y1

set_option maxHeartbeats 4000000 in
theorem L_laws_szBlock (a_0 : Block) (a_1 : Int) {r : Int} (h : p_laws_szBlock a_0 a_1 = some r) : callL E 190 [.agg [IN a_0.Erases, IN a_0.Next, BO a_0.Bad, .d (.arr (a_0.Pages.map rS))], IN a_1] ([] : Fo) = some (IN r, ([] : Fo)) := by
  unfold p_laws_szBlock at h
  refine callW (fu := Try.f190) rfl rfl rfl NN ?_
  intro lp cl hlp hcl
  conv => lhs; whnf
  obtain ⟨y1, h_y1, h⟩ := callK_inv h
  rw [cl_eq hcl (L_laws_szStringS a_0.Pages a_1 h_y1)]
  rotate_left
  · show _ = _; kernel_rfl
  · show _ = _; kernel_rfl
  conv => lhs; whnf
  cases hb2 : (decide (y1 < 0))
  · replace h := ifF h (decF hb2); conv => lhs; whnf
    obtain rfl := Option.some.inj h; show _ = _; kernel_rfl

  · replace h := ifT h (decT hb2); conv => lhs; whnf
    obtain rfl := Option.some.inj h; show _ = _; kernel_rfl


noncomputable def p_laws_szBlockS (a_0 : List Block) (a_1 : Int) : Option Int :=
  if (IntKind.i64.wrap (a_1 - (a_0.length : Int))) < 0 then
    some (-1)
  else
    grd (a_0.length < 4611686018427387904) <|
    forK a_0 (fun (i8 : Nat) x11 (v9 : Int) (nx10 : Int → Option _) =>
      callK (p_laws_szBlock x11 v9) fun y12 =>
      if y12 < 0 then
        some (-1)
      else
        nx10 y12) (IntKind.i64.wrap (a_1 - (a_0.length : Int))) (fun (v9 : Int) =>
      some v9)

set_option maxHeartbeats 4000000 in
theorem L_laws_szBlockS (a_0 : List Block) (a_1 : Int) {r : Int} (h : p_laws_szBlockS a_0 a_1 = some r) : callL E 104 [.d (.arr (a_0.map rBlock)), IN a_1] ([] : Fo) = some (IN r, ([] : Fo)) := by
  unfold p_laws_szBlockS at h
  refine callW (fu := Try.f104) rfl rfl rfl NN ?_
  intro lp cl hlp hcl
  conv => lhs; whnf
  try rw [len_of (l := a_0) (r := rBlock)]
  cases hb1 : (decide ((IntKind.i64.wrap (a_1 - (a_0.length : Int))) < 0))
  · replace h := ifF h (decF hb1); conv => lhs; whnf
    obtain ⟨hl_i8, h⟩ := grd_inv h
    refine loop_for hlp (l := a_0) hl_i8 (fun (i8 : Nat) (v9 : Int) => ([.d (.arr (a_0.map rBlock)), IN v9, .dead, .dead, .dead, IN (i8 : Int)] ++ List.replicate 21 .dead : List V)) (fun (i8 : Nat) (v9 : Int) => ([] : Fo)) (fun (r : Int) => ((IN r : V), ([] : Fo))) ?_ ?_ (IntKind.i64.wrap (a_1 - (a_0.length : Int))) _ (fun kk => by kernel_rfl) h
    · clear h
      rintro next_nx10 nx10 i8 hi_i8 hnx10 v9 r h
      try dsimp only at h
      have hn_i8 : i8 < 4611686018427387904 := by omega
      have hx_x11 := get_map rBlock a_0 i8 hi_i8
      generalize a_0[i8] = x11 at h hx_x11
      have hd_i8 : (decide ((i8 : Int) < (a_0.length : Int))) = true := decide_eq_true (by omega)
      conv => lhs; whnf
      try rw [len_of (l := a_0) (r := rBlock)]
      rw [hd_i8]
      conv => lhs; whnf
      try (rw [decide_eq_true hq_x11]; conv => lhs; whnf)
      rw [hx_x11]
      conv => lhs; whnf
      rw [hx_x11]
      conv => lhs; whnf
      obtain ⟨y12, h_y12, h⟩ := callK_inv h
      rw [cl_eq hcl (L_laws_szBlock x11 v9 h_y12)]
      rotate_left
      · show _ = _; kernel_rfl
      · show _ = _; kernel_rfl
      conv => lhs; whnf
      cases hb13 : (decide (y12 < 0))
      · replace h := ifF h (decF hb13); conv => lhs; whnf
        rw [wrap_nat i8 (by have := hn_i8; omega)]
        exact hnx10 _ _ _ _ (fun kk => by kernel_rfl) h
      · replace h := ifT h (decT hb13); conv => lhs; whnf
        obtain rfl := Option.some.inj h; show _ = _; kernel_rfl

    · clear h
      rintro next_nx10 v9 r h
      try dsimp only at h
      have hd_i8 : (decide ((a_0.length : Int) < (a_0.length : Int))) = false := decide_eq_false (by omega)
      conv => lhs; whnf
      try rw [len_of (l := a_0) (r := rBlock)]
      rw [hd_i8]
      conv => lhs; whnf
      obtain rfl := Option.some.inj h; show _ = _; kernel_rfl

  · replace h := ifT h (decT hb1); conv => lhs; whnf
    obtain rfl := Option.some.inj h; show _ = _; kernel_rfl


noncomputable def p_laws_szFlash (a_0 : Flash) (a_1 : Int) : Option Int :=
  callK (p_laws_szBlockS a_0.Blocks a_1) fun y1 =>
  if y1 < 0 then
    some (-1)
  else
    some y1

set_option maxHeartbeats 4000000 in
theorem L_laws_szFlash (a_0 : Flash) (a_1 : Int) {r : Int} (h : p_laws_szFlash a_0 a_1 = some r) : callL E 27 [.agg [IN a_0.Geo.Dies, IN a_0.Geo.Blocks, IN a_0.Geo.Pages, .d (.arr (a_0.Blocks.map rBlock)), IN a_0.Fuse, IN a_0.Keep, BO a_0.Off, IN a_0.Ops], IN a_1] ([] : Fo) = some (IN r, ([] : Fo)) := by
  unfold p_laws_szFlash at h
  refine callW (fu := Try.f27) rfl rfl rfl NN ?_
  intro lp cl hlp hcl
  conv => lhs; whnf
  obtain ⟨y1, h_y1, h⟩ := callK_inv h
  rw [cl_eq hcl (L_laws_szBlockS a_0.Blocks a_1 h_y1)]
  rotate_left
  · show _ = _; kernel_rfl
  · show _ = _; kernel_rfl
  conv => lhs; whnf
  cases hb2 : (decide (y1 < 0))
  · replace h := ifF h (decF hb2); conv => lhs; whnf
    obtain rfl := Option.some.inj h; show _ = _; kernel_rfl

  · replace h := ifT h (decT hb2); conv => lhs; whnf
    obtain rfl := Option.some.inj h; show _ = _; kernel_rfl


noncomputable def p_laws_szFaultS (a_0 : List Fault) (a_1 : Int) : Option Int :=
  if (IntKind.i64.wrap (a_1 - (a_0.length : Int))) < 0 then
    some (-1)
  else
    some (IntKind.i64.wrap (a_1 - (a_0.length : Int)))

set_option maxHeartbeats 4000000 in
theorem L_laws_szFaultS (a_0 : List Fault) (a_1 : Int) {r : Int} (h : p_laws_szFaultS a_0 a_1 = some r) : callL E 35 [.d (.arr (a_0.map rFault)), IN a_1] ([] : Fo) = some (IN r, ([] : Fo)) := by
  unfold p_laws_szFaultS at h
  refine callW (fu := Try.f35) rfl rfl rfl NN ?_
  intro lp cl hlp hcl
  conv => lhs; whnf
  try rw [len_of (l := a_0) (r := rFault)]
  cases hb1 : (decide ((IntKind.i64.wrap (a_1 - (a_0.length : Int))) < 0))
  · replace h := ifF h (decF hb1); conv => lhs; whnf
    obtain rfl := Option.some.inj h; show _ = _; kernel_rfl

  · replace h := ifT h (decT hb1); conv => lhs; whnf
    obtain rfl := Option.some.inj h; show _ = _; kernel_rfl


noncomputable def p_laws_toGeometry (a_0 : Geometry) : Option Unit :=
  some ()

set_option maxHeartbeats 4000000 in
theorem L_laws_toGeometry (a_0 : Geometry) {r : Unit} (h : p_laws_toGeometry a_0 = some r) : callL E 105 [.agg [IN a_0.Dies, IN a_0.Blocks, IN a_0.Pages]] ([] : Fo) = some (.agg [IN a_0.Dies, IN a_0.Blocks, IN a_0.Pages], ([] : Fo)) := by
  unfold p_laws_toGeometry at h
  refine callW (fu := Try.f105) rfl rfl rfl NN ?_
  intro lp cl hlp hcl
  conv => lhs; whnf
  obtain rfl := Option.some.inj h; show _ = _; kernel_rfl


noncomputable def p_laws_toStringS (a_0 : List ByteArray) : Option (List ByteArray) :=
  grd (mkOk (a_0.length : Int) (a_0.length : Int) 16 1 = true) <|
  grd (a_0.length < 4611686018427387904) <|
  forK a_0 (fun (i6 : Nat) x9 (v7 : List ByteArray) (nx8 : (List ByteArray) → Option _) =>
    getK v7 (i6 : Int) fun x10 =>
    nx8 (v7.set (Int.toNat (i6 : Int)) x9)) (List.replicate (Int.toNat (a_0.length : Int)) ((⟨#[]⟩ : ByteArray) : ByteArray)) (fun (v7 : List ByteArray) =>
    some v7)

set_option maxHeartbeats 4000000 in
theorem L_laws_toStringS (a_0 : List ByteArray) {r : (List ByteArray)} (h : p_laws_toStringS a_0 = some r) : callL E 274 [.d (.arr (a_0.map rS))] ([] : Fo) = some (.sl 0, ([some (.arr 9 1 (r.map rS))] : Fo)) := by
  unfold p_laws_toStringS at h
  refine callW (fu := Try.f274) rfl rfl rfl NN ?_
  intro lp cl hlp hcl
  conv => lhs; whnf
  try rw [len_of (l := a_0) (r := rS)]
  obtain ⟨hg11, h⟩ := grd_inv h
  rw [mk_eq hg11 ?h1 ?h2 ?h3 ?h4]
  case h1 => exact rfl
  case h2 => exact rfl
  case h3 => exact rfl
  case h4 => exact rfl
  conv => lhs; whnf
  first | (rw [rep_of (r := rS) (x := ((⟨#[]⟩ : ByteArray) : ByteArray)) ?hh]; case hh => exact rfl) | skip
  obtain ⟨hl_i6, h⟩ := grd_inv h
  refine loop_for hlp (l := a_0) hl_i6 (fun (i6 : Nat) (v7 : List ByteArray) => ([.d (.arr (a_0.map rS)), .dead, .dead, .sl 0, IN (i6 : Int)] ++ List.replicate 17 .dead : List V)) (fun (i6 : Nat) (v7 : List ByteArray) => ([some (.arr 9 1 (v7.map rS))] : Fo)) (fun (r : (List ByteArray)) => ((.sl 0 : V), ([some (.arr 9 1 (r.map rS))] : Fo))) ?_ ?_ (List.replicate (Int.toNat (a_0.length : Int)) ((⟨#[]⟩ : ByteArray) : ByteArray)) _ (fun kk => by kernel_rfl) h
  · clear h
    rintro next_nx8 nx8 i6 hi_i6 hnx8 v7 r h
    try dsimp only at h
    have hn_i6 : i6 < 4611686018427387904 := by omega
    have hx_x9 := get_map rS a_0 i6 hi_i6
    generalize a_0[i6] = x9 at h hx_x9
    have hd_i6 : (decide ((i6 : Int) < (a_0.length : Int))) = true := decide_eq_true (by omega)
    conv => lhs; whnf
    try rw [len_of (l := a_0) (r := rS)]
    rw [hd_i6]
    conv => lhs; whnf
    try (rw [decide_eq_true hq_x9]; conv => lhs; whnf)
    rw [hx_x9]
    conv => lhs; whnf
    rw [hx_x9]
    conv => lhs; whnf
    obtain ⟨x10, hq_x10, hx_x10', h⟩ := getK_inv h
    have hx_x10 := get_of (r := rS) hx_x10'
    try (rw [decide_eq_true hq_x10]; conv => lhs; whnf)
    rw [hx_x10]
    conv => lhs; whnf
    rw [hx_x10]
    conv => lhs; whnf
    first | (rw [map_set_of (r := rS) (l := v7) (x := x9) ?hh]; case hh => exact rfl) | skip
    rw [wrap_nat i6 (by have := hn_i6; omega)]
    exact hnx8 _ _ _ _ (fun kk => by kernel_rfl) h
  · clear h
    rintro next_nx8 v7 r h
    try dsimp only at h
    have hd_i6 : (decide ((a_0.length : Int) < (a_0.length : Int))) = false := decide_eq_false (by omega)
    conv => lhs; whnf
    try rw [len_of (l := a_0) (r := rS)]
    rw [hd_i6]
    conv => lhs; whnf
    obtain rfl := Option.some.inj h; show _ = _; kernel_rfl


noncomputable def p_laws_toBlock (a_0 : Block) : Option (List ByteArray) :=
  callK (p_laws_toStringS a_0.Pages) fun y1 =>
  some y1

set_option maxHeartbeats 4000000 in
theorem L_laws_toBlock (a_0 : Block) {r : (List ByteArray)} (h : p_laws_toBlock a_0 = some r) : callL E 191 [.agg [IN a_0.Erases, IN a_0.Next, BO a_0.Bad, .d (.arr (a_0.Pages.map rS))]] ([] : Fo) = some (.agg [IN a_0.Erases, IN a_0.Next, BO a_0.Bad, .sl 0], ([some (.arr 9 1 (r.map rS))] : Fo)) := by
  unfold p_laws_toBlock at h
  refine callW (fu := Try.f191) rfl rfl rfl NN ?_
  intro lp cl hlp hcl
  conv => lhs; whnf
  obtain ⟨y1, h_y1, h⟩ := callK_inv h
  rw [cl_eq hcl (L_laws_toStringS a_0.Pages h_y1)]
  rotate_left
  · show _ = _; kernel_rfl
  · show _ = _; kernel_rfl
  conv => lhs; whnf
  obtain rfl := Option.some.inj h; show _ = _; kernel_rfl


noncomputable def p_laws_toBlockS (a_0 : List Block) : Option (List Block) :=
  grd (mkOk (a_0.length : Int) (a_0.length : Int) 48 4 = true) <|
  grd (a_0.length < 4611686018427387904) <|
  forK a_0 (fun (i8 : Nat) x11 (v9 : List Block) (nx10 : (List Block) → Option _) =>
    callK (p_laws_toBlock x11) fun y12 =>
    getK v9 (i8 : Int) fun x13 =>
    nx10 (v9.set (Int.toNat (i8 : Int)) (⟨x11.Erases, x11.Next, x11.Bad, y12⟩ : Block))) (List.replicate (Int.toNat (a_0.length : Int)) (⟨0, 0, false, []⟩ : Block)) (fun (v9 : List Block) =>
    grd (a_0.length = v9.length) <|
    some v9)

set_option maxHeartbeats 4000000 in
theorem L_laws_toBlockS (a_0 : List Block) {r : (List Block)} (h : p_laws_toBlockS a_0 = some r) : callL E 106 [.d (.arr (a_0.map rBlock))] ([] : Fo) = some (.nsl 0, ([some (.nst ⟨91, 4, 3, 9, 1⟩ r.length (r.map rBlock))] : Fo)) := by
  unfold p_laws_toBlockS at h
  refine callW (fu := Try.f106) rfl rfl rfl NN ?_
  intro lp cl hlp hcl
  conv => lhs; whnf
  try rw [len_of (l := a_0) (r := rBlock)]
  obtain ⟨hg15, h⟩ := grd_inv h
  rw [mk_eq hg15 ?h1 ?h2 ?h3 ?h4]
  case h1 => exact rfl
  case h2 => exact rfl
  case h3 => exact rfl
  case h4 => exact rfl
  conv => lhs; whnf
  first | (rw [rep_of (r := rBlock) (x := (⟨0, 0, false, []⟩ : Block)) ?hh]; case hh => exact rfl) | skip
  obtain ⟨hl_i8, h⟩ := grd_inv h
  refine loop_for hlp (l := a_0) hl_i8 (fun (i8 : Nat) (v9 : List Block) => ([.d (.arr (a_0.map rBlock)), .dead, .dead, .nsl 0, IN (i8 : Int)] ++ List.replicate 18 .dead : List V)) (fun (i8 : Nat) (v9 : List Block) => ([some (.nst ⟨91, 4, 3, 9, 1⟩ i8 (v9.map rBlock))] : Fo)) (fun (r : (List Block)) => ((.nsl 0 : V), ([some (.nst ⟨91, 4, 3, 9, 1⟩ r.length (r.map rBlock))] : Fo))) ?_ ?_ (List.replicate (Int.toNat (a_0.length : Int)) (⟨0, 0, false, []⟩ : Block)) _ (fun kk => by kernel_rfl) h
  · clear h
    rintro next_nx10 nx10 i8 hi_i8 hnx10 v9 r h
    try dsimp only at h
    have hn_i8 : i8 < 4611686018427387904 := by omega
    have hx_x11 := get_map rBlock a_0 i8 hi_i8
    generalize a_0[i8] = x11 at h hx_x11
    have hd_i8 : (decide ((i8 : Int) < (a_0.length : Int))) = true := decide_eq_true (by omega)
    conv => lhs; whnf
    try rw [len_of (l := a_0) (r := rBlock)]
    rw [hd_i8]
    conv => lhs; whnf
    try (rw [decide_eq_true hq_x11]; conv => lhs; whnf)
    rw [hx_x11]
    conv => lhs; whnf
    rw [hx_x11]
    conv => lhs; whnf
    obtain ⟨y12, h_y12, h⟩ := callK_inv h
    rw [cl_eq hcl (L_laws_toBlock x11 h_y12)]
    rotate_left
    · show _ = _; kernel_rfl
    · show _ = _; kernel_rfl
    conv => lhs; whnf
    obtain ⟨x13, hq_x13, hx_x13', h⟩ := getK_inv h
    have hx_x13 := get_of (r := rBlock) hx_x13'
    try (rw [decide_eq_true hq_x13]; conv => lhs; whnf)
    rw [hx_x13]
    conv => lhs; whnf
    rw [hx_x13]
    conv => lhs; whnf
    conv => lhs; whnf
    try (rw [beq_yes]; conv => lhs; whnf)
    try (rw [beq_toNat]; conv => lhs; whnf)
    first | (rw [map_set_of (r := rBlock) (l := v9) (x := (⟨x11.Erases, x11.Next, x11.Bad, y12⟩ : Block)) ?hh]; case hh => exact rfl) | skip
    rw [wrap_nat i8 (by have := hn_i8; omega)]
    exact hnx10 _ _ _ _ (fun kk => by kernel_rfl) h
  · clear h
    rintro next_nx10 v9 r h
    try dsimp only at h
    have hd_i8 : (decide ((a_0.length : Int) < (a_0.length : Int))) = false := decide_eq_false (by omega)
    conv => lhs; whnf
    try rw [len_of (l := a_0) (r := rBlock)]
    rw [hd_i8]
    conv => lhs; whnf
    obtain ⟨hN14, h⟩ := grd_inv h; conv => lhs; whnf
    obtain rfl := Option.some.inj h
    try (conv => rhs; simp only [List.length_set, List.length_append, List.length_cons, List.length_nil, Nat.zero_add, ← hN14])
    show _ = _; kernel_rfl

noncomputable def p_laws_toFlash (a_0 : Flash) : Option (List Block) :=
  callK (p_laws_toGeometry a_0.Geo) fun y1 =>
  callK (p_laws_toBlockS a_0.Blocks) fun y2 =>
  some y2

set_option maxHeartbeats 4000000 in
theorem L_laws_toFlash (a_0 : Flash) {r : (List Block)} (h : p_laws_toFlash a_0 = some r) : callL E 29 [.agg [IN a_0.Geo.Dies, IN a_0.Geo.Blocks, IN a_0.Geo.Pages, .d (.arr (a_0.Blocks.map rBlock)), IN a_0.Fuse, IN a_0.Keep, BO a_0.Off, IN a_0.Ops]] ([] : Fo) = some (.agg [IN a_0.Geo.Dies, IN a_0.Geo.Blocks, IN a_0.Geo.Pages, .nsl 0, IN a_0.Fuse, IN a_0.Keep, BO a_0.Off, IN a_0.Ops], ([some (.nst ⟨91, 4, 3, 9, 1⟩ r.length (r.map rBlock))] : Fo)) := by
  unfold p_laws_toFlash at h
  refine callW (fu := Try.f29) rfl rfl rfl NN ?_
  intro lp cl hlp hcl
  conv => lhs; whnf
  obtain ⟨y1, h_y1, h⟩ := callK_inv h
  rw [cl_eq hcl (L_laws_toGeometry a_0.Geo h_y1)]
  rotate_left
  · show _ = _; kernel_rfl
  · show _ = _; kernel_rfl
  conv => lhs; whnf
  obtain ⟨y2, h_y2, h⟩ := callK_inv h
  rw [cl_eq hcl (L_laws_toBlockS a_0.Blocks h_y2)]
  rotate_left
  · show _ = _; kernel_rfl
  · show _ = _; kernel_rfl
  conv => lhs; whnf
  obtain rfl := Option.some.inj h; show _ = _; kernel_rfl


noncomputable def p_laws_toFault (a_0 : Fault) : Option Unit :=
  some ()

set_option maxHeartbeats 4000000 in
theorem L_laws_toFault (a_0 : Fault) {r : Unit} (h : p_laws_toFault a_0 = some r) : callL E 30 [.agg [IN a_0.Kind, IN a_0.Block, IN a_0.Page, IN a_0.Bit]] ([] : Fo) = some (.agg [IN a_0.Kind, IN a_0.Block, IN a_0.Page, IN a_0.Bit], ([] : Fo)) := by
  unfold p_laws_toFault at h
  refine callW (fu := Try.f30) rfl rfl rfl NN ?_
  intro lp cl hlp hcl
  conv => lhs; whnf
  obtain rfl := Option.some.inj h; show _ = _; kernel_rfl


noncomputable def p_laws_toFaultS (a_0 : List Fault) : Option (List Fault) :=
  grd (mkOk (a_0.length : Int) (a_0.length : Int) 32 4 = true) <|
  grd (a_0.length < 4611686018427387904) <|
  forK a_0 (fun (i7 : Nat) x10 (v8 : List Fault) (nx9 : (List Fault) → Option _) =>
    callK (p_laws_toFault x10) fun y11 =>
    getK v8 (i7 : Int) fun x12 =>
    nx9 (v8.set (Int.toNat (i7 : Int)) x10)) (List.replicate (Int.toNat (a_0.length : Int)) (⟨0, 0, 0, 0⟩ : Fault)) (fun (v8 : List Fault) =>
    some v8)

set_option maxHeartbeats 4000000 in
theorem L_laws_toFaultS (a_0 : List Fault) {r : (List Fault)} (h : p_laws_toFaultS a_0 = some r) : callL E 37 [.d (.arr (a_0.map rFault))] ([] : Fo) = some (.sl 0, ([some (.arr 54 4 (r.map rFault))] : Fo)) := by
  unfold p_laws_toFaultS at h
  refine callW (fu := Try.f37) rfl rfl rfl NN ?_
  intro lp cl hlp hcl
  conv => lhs; whnf
  try rw [len_of (l := a_0) (r := rFault)]
  obtain ⟨hg13, h⟩ := grd_inv h
  rw [mk_eq hg13 ?h1 ?h2 ?h3 ?h4]
  case h1 => exact rfl
  case h2 => exact rfl
  case h3 => exact rfl
  case h4 => exact rfl
  conv => lhs; whnf
  first | (rw [rep_of (r := rFault) (x := (⟨0, 0, 0, 0⟩ : Fault)) ?hh]; case hh => exact rfl) | skip
  obtain ⟨hl_i7, h⟩ := grd_inv h
  refine loop_for hlp (l := a_0) hl_i7 (fun (i7 : Nat) (v8 : List Fault) => ([.d (.arr (a_0.map rFault)), .dead, .dead, .sl 0, IN (i7 : Int)] ++ List.replicate 18 .dead : List V)) (fun (i7 : Nat) (v8 : List Fault) => ([some (.arr 54 4 (v8.map rFault))] : Fo)) (fun (r : (List Fault)) => ((.sl 0 : V), ([some (.arr 54 4 (r.map rFault))] : Fo))) ?_ ?_ (List.replicate (Int.toNat (a_0.length : Int)) (⟨0, 0, 0, 0⟩ : Fault)) _ (fun kk => by kernel_rfl) h
  · clear h
    rintro next_nx9 nx9 i7 hi_i7 hnx9 v8 r h
    try dsimp only at h
    have hn_i7 : i7 < 4611686018427387904 := by omega
    have hx_x10 := get_map rFault a_0 i7 hi_i7
    generalize a_0[i7] = x10 at h hx_x10
    have hd_i7 : (decide ((i7 : Int) < (a_0.length : Int))) = true := decide_eq_true (by omega)
    conv => lhs; whnf
    try rw [len_of (l := a_0) (r := rFault)]
    rw [hd_i7]
    conv => lhs; whnf
    try (rw [decide_eq_true hq_x10]; conv => lhs; whnf)
    rw [hx_x10]
    conv => lhs; whnf
    rw [hx_x10]
    conv => lhs; whnf
    obtain ⟨y11, h_y11, h⟩ := callK_inv h
    rw [cl_eq hcl (L_laws_toFault x10 h_y11)]
    rotate_left
    · show _ = _; kernel_rfl
    · show _ = _; kernel_rfl
    conv => lhs; whnf
    obtain ⟨x12, hq_x12, hx_x12', h⟩ := getK_inv h
    have hx_x12 := get_of (r := rFault) hx_x12'
    try (rw [decide_eq_true hq_x12]; conv => lhs; whnf)
    rw [hx_x12]
    conv => lhs; whnf
    rw [hx_x12]
    conv => lhs; whnf
    first | (rw [map_set_of (r := rFault) (l := v8) (x := x10) ?hh]; case hh => exact rfl) | skip
    rw [wrap_nat i7 (by have := hn_i7; omega)]
    exact hnx9 _ _ _ _ (fun kk => by kernel_rfl) h
  · clear h
    rintro next_nx9 v8 r h
    try dsimp only at h
    have hd_i7 : (decide ((a_0.length : Int) < (a_0.length : Int))) = false := decide_eq_false (by omega)
    conv => lhs; whnf
    try rw [len_of (l := a_0) (r := rFault)]
    rw [hd_i7]
    conv => lhs; whnf
    obtain rfl := Option.some.inj h; show _ = _; kernel_rfl


noncomputable def p_spec_ValidGeometry (a_0 : Geometry) : Option Bool :=
  if (inR a_0.Dies 2 3) = true then
    if (inR a_0.Blocks 4 12) = true then
      if a_0.Pages = 8 then
        some true
      else
        some (a_0.Pages == 16)
    else
      some false
  else
    some false

set_option maxHeartbeats 4000000 in
theorem L_spec_ValidGeometry (a_0 : Geometry) {r : Bool} (h : p_spec_ValidGeometry a_0 = some r) : callL E 141 [.agg [IN a_0.Dies, IN a_0.Blocks, IN a_0.Pages]] ([] : Fo) = some (BO r, ([] : Fo)) := by
  unfold p_spec_ValidGeometry at h
  refine callW (fu := Try.f141) rfl rfl rfl NN ?_
  intro lp cl hlp hcl
  conv => lhs; whnf
  rw [cl_eq hcl (L_spec_l00In a_0.Dies 2 3 (pl_l00In a_0.Dies 2 3))]
  rotate_left
  · show _ = _; kernel_rfl
  · show _ = _; kernel_rfl
  conv => lhs; whnf
  cases hb1 : (inR a_0.Dies 2 3)
  · replace h := ifF h (booF hb1); conv => lhs; whnf
    try (rw [hb1]; conv => lhs; whnf)
    try (rw [hb1]; conv => lhs; whnf)
    try (rw [hb1]; conv => lhs; whnf)
    obtain rfl := Option.some.inj h; show _ = _; kernel_rfl

  · replace h := ifT h hb1; conv => lhs; whnf
    try (rw [hb1]; conv => lhs; whnf)
    try (rw [hb1]; conv => lhs; whnf)
    rw [cl_eq hcl (L_spec_l00In a_0.Blocks 4 12 (pl_l00In a_0.Blocks 4 12))]
    rotate_left
    · show _ = _; kernel_rfl
    · show _ = _; kernel_rfl
    conv => lhs; whnf
    try (rw [hb1]; conv => lhs; whnf)
    cases hb2 : (inR a_0.Blocks 4 12)
    · replace h := ifF h (booF hb2); conv => lhs; whnf
      try (rw [hb2]; conv => lhs; whnf)
      try (rw [hb2]; conv => lhs; whnf)
      try (rw [hb2]; conv => lhs; whnf)
      try (rw [hb2]; conv => lhs; whnf)
      try (rw [hb2]; conv => lhs; whnf)
      obtain rfl := Option.some.inj h; show _ = _; kernel_rfl

    · replace h := ifT h hb2; conv => lhs; whnf
      try (rw [hb2]; conv => lhs; whnf)
      try (rw [hb2]; conv => lhs; whnf)
      try (rw [hb2]; conv => lhs; whnf)
      cases hb3 : (a_0.Pages == 8)
      · replace h := ifF h (beqF hb3); conv => lhs; whnf
        try (rw [hb3]; conv => lhs; whnf)
        try (rw [hb3]; conv => lhs; whnf)
        try (rw [hb2]; conv => lhs; whnf)
        try (rw [hb3]; conv => lhs; whnf)
        try (rw [hb2]; conv => lhs; whnf)
        obtain rfl := Option.some.inj h; show _ = _; kernel_rfl

      · replace h := ifT h (beqT hb3); conv => lhs; whnf
        try (rw [hb3]; conv => lhs; whnf)
        try (rw [hb3]; conv => lhs; whnf)
        try (rw [hb2]; conv => lhs; whnf)
        try (rw [hb3]; conv => lhs; whnf)
        try (rw [hb2]; conv => lhs; whnf)
        obtain rfl := Option.some.inj h; show _ = _; kernel_rfl


noncomputable def p_spec_l06Block (a_0 : Block) (a_1 : Int) : Option Bool :=
  if (inR a_0.Erases 0 1000) = true then
    if (inR a_0.Next 0 a_1) = true then
      if ¬ (a_0.Pages.length : Int) = a_1 then
        some false
      else
        grd (a_1 < 4611686018427387904) <|
        forI a_1 (fun (i10 : Nat) (_ : Unit) (nx11 : Unit → Option _) =>
          getK a_0.Pages (i10 : Int) fun x12 =>
          if ¬ (ByteArray.size x12 : Int) = 0 then
            if ¬ (ByteArray.size x12 : Int) = 91 then
              some false
            else
              if (i10 : Int) ≥ a_0.Next then
                some false
              else
                nx11 ()
          else
            nx11 ()) () (fun (_ : Unit) =>
          some true)
    else
      some false
  else
    some false

set_option maxHeartbeats 4000000 in
theorem L_spec_l06Block (a_0 : Block) (a_1 : Int) {r : Bool} (h : p_spec_l06Block a_0 a_1 = some r) : callL E 143 [.agg [IN a_0.Erases, IN a_0.Next, BO a_0.Bad, .d (.arr (a_0.Pages.map rS))], IN a_1] ([] : Fo) = some (BO r, ([] : Fo)) := by
  unfold p_spec_l06Block at h
  refine callW (fu := Try.f143) rfl rfl rfl NN ?_
  intro lp cl hlp hcl
  conv => lhs; whnf
  rw [cl_eq hcl (L_spec_l00In a_0.Erases 0 1000 (pl_l00In a_0.Erases 0 1000))]
  rotate_left
  · show _ = _; kernel_rfl
  · show _ = _; kernel_rfl
  conv => lhs; whnf
  cases hb1 : (inR a_0.Erases 0 1000)
  · replace h := ifF h (booF hb1); conv => lhs; whnf
    try (rw [hb1]; conv => lhs; whnf)
    try (rw [hb1]; conv => lhs; whnf)
    try (rw [hb1]; conv => lhs; whnf)
    try (rw [hb1]; conv => lhs; whnf)
    try (rw [hb1]; conv => lhs; whnf)
    obtain rfl := Option.some.inj h; show _ = _; kernel_rfl

  · replace h := ifT h hb1; conv => lhs; whnf
    try (rw [hb1]; conv => lhs; whnf)
    try (rw [hb1]; conv => lhs; whnf)
    try (rw [hb1]; conv => lhs; whnf)
    rw [cl_eq hcl (L_spec_l00In a_0.Next 0 a_1 (pl_l00In a_0.Next 0 a_1))]
    rotate_left
    · show _ = _; kernel_rfl
    · show _ = _; kernel_rfl
    conv => lhs; whnf
    try (rw [hb1]; conv => lhs; whnf)
    try (rw [hb1]; conv => lhs; whnf)
    cases hb2 : (inR a_0.Next 0 a_1)
    · replace h := ifF h (booF hb2); conv => lhs; whnf
      try (rw [hb2]; conv => lhs; whnf)
      try (rw [hb2]; conv => lhs; whnf)
      try (rw [hb2]; conv => lhs; whnf)
      try (rw [hb2]; conv => lhs; whnf)
      try (rw [hb2]; conv => lhs; whnf)
      obtain rfl := Option.some.inj h; show _ = _; kernel_rfl

    · replace h := ifT h hb2; conv => lhs; whnf
      try (rw [hb2]; conv => lhs; whnf)
      try (rw [hb2]; conv => lhs; whnf)
      try rw [len_of (l := a_0.Pages) (r := rS)]
      try (rw [hb2]; conv => lhs; whnf)
      try (rw [hb2]; conv => lhs; whnf)
      try (rw [hb2]; conv => lhs; whnf)
      cases hb3 : ((a_0.Pages.length : Int) != a_1)
      · replace h := ifF h ((fun h => not_not_intro (bneF h)) hb3); conv => lhs; whnf
        obtain ⟨hl_i10, h⟩ := grd_inv h
        refine loop_forI hlp (n := a_1) hl_i10 (fun (i10 : Nat) (_ : Unit) => ([.dead, IN a_1, .bp 0 0, .dead, .dead, IN (i10 : Int)] ++ List.replicate 42 .dead : List V)) (fun (i10 : Nat) (_ : Unit) => ([some (.box [IN a_0.Erases, IN a_0.Next, BO a_0.Bad, .d (.arr (a_0.Pages.map rS))])] : Fo)) (fun (r : Bool) => ((BO r : V), ([] : Fo))) ?_ ?_ () _ (fun kk => by kernel_rfl) h
        · clear h
          rintro next_nx11 nx11 i10 hi_i10 hnx11 ⟨⟩ r h
          try dsimp only at h
          have hn_i10 : i10 < 4611686018427387904 := by omega
          have hd_i10 : (decide ((i10 : Int) < a_1)) = true := decide_eq_true (by omega)
          conv => lhs; whnf
          rw [hd_i10]
          conv => lhs; whnf
          obtain ⟨x12, hq_x12, hx_x12', h⟩ := getK_inv h
          have hx_x12 := get_of (r := rS) hx_x12'
          try (rw [decide_eq_true hq_x12]; conv => lhs; whnf)
          rw [hx_x12]
          conv => lhs; whnf
          rw [hx_x12]
          conv => lhs; whnf
          cases hb13 : ((ByteArray.size x12 : Int) != 0)
          · replace h := ifF h ((fun h => not_not_intro (bneF h)) hb13); conv => lhs; whnf
            try (rw [hb13]; conv => lhs; whnf)
            try (rw [hb13]; conv => lhs; whnf)
            try (rw [hb13]; conv => lhs; whnf)
            try (rw [hb13]; conv => lhs; whnf)
            rw [wrap_nat i10 (by have := hn_i10; omega)]
            exact hnx11 _ _ _ _ (fun kk => by kernel_rfl) h
          · replace h := ifT h (bneT hb13); conv => lhs; whnf
            try (rw [hb13]; conv => lhs; whnf)
            try (rw [hb13]; conv => lhs; whnf)
            cases hb14 : ((ByteArray.size x12 : Int) != 91)
            · replace h := ifF h ((fun h => not_not_intro (bneF h)) hb14); conv => lhs; whnf
              try (rw [hb14]; conv => lhs; whnf)
              try (rw [hb14]; conv => lhs; whnf)
              try (rw [hb14]; conv => lhs; whnf)
              try (rw [hb13]; conv => lhs; whnf)
              try (rw [hb14]; conv => lhs; whnf)
              try (rw [hb13]; conv => lhs; whnf)
              cases hb15 : (decide ((i10 : Int) ≥ a_0.Next))
              · replace h := ifF h (decF hb15); conv => lhs; whnf
                rw [wrap_nat i10 (by have := hn_i10; omega)]
                exact hnx11 _ _ _ _ (fun kk => by kernel_rfl) h
              · replace h := ifT h (decT hb15); conv => lhs; whnf
                obtain rfl := Option.some.inj h; show _ = _; kernel_rfl

            · replace h := ifT h (bneT hb14); conv => lhs; whnf
              try (rw [hb14]; conv => lhs; whnf)
              try (rw [hb14]; conv => lhs; whnf)
              try (rw [hb14]; conv => lhs; whnf)
              try (rw [hb13]; conv => lhs; whnf)
              try (rw [hb14]; conv => lhs; whnf)
              try (rw [hb13]; conv => lhs; whnf)
              obtain rfl := Option.some.inj h; show _ = _; kernel_rfl

        · clear h
          rintro next_nx11 ⟨⟩ r h
          try dsimp only at h
          have hd_i10 : (decide (((Int.toNat a_1) : Int) < a_1)) = false := decide_eq_false (by omega)
          conv => lhs; whnf
          rw [hd_i10]
          conv => lhs; whnf
          obtain rfl := Option.some.inj h; show _ = _; kernel_rfl

      · replace h := ifT h (bneT hb3); conv => lhs; whnf
        obtain rfl := Option.some.inj h; show _ = _; kernel_rfl


noncomputable def p_spec_ValidFlash (a_0 : Flash) : Option Bool :=
  callK (p_spec_ValidGeometry a_0.Geo) fun y1 =>
  if y1 = true then
    if ¬ (a_0.Blocks.length : Int) = (IntKind.i64.wrap (a_0.Geo.Dies * a_0.Geo.Blocks)) then
      some false
    else
      if (inR a_0.Fuse (-1) 1000000) = true then
        if (inR a_0.Keep 0 91) = true then
          if a_0.Ops < 0 then
            some false
          else
            grd (a_0.Blocks.length < 4611686018427387904) <|
            forK a_0.Blocks (fun (i12 : Nat) x14 (_ : Unit) (nx13 : Unit → Option _) =>
              callK (p_spec_l06Block x14 a_0.Geo.Pages) fun y15 =>
              if y15 = true then
                nx13 ()
              else
                some false) () (fun (_ : Unit) =>
              some true)
        else
          some false
      else
        some false
  else
    some false

set_option maxHeartbeats 4000000 in
theorem L_spec_ValidFlash (a_0 : Flash) {r : Bool} (h : p_spec_ValidFlash a_0 = some r) : callL E 54 [.agg [IN a_0.Geo.Dies, IN a_0.Geo.Blocks, IN a_0.Geo.Pages, .d (.arr (a_0.Blocks.map rBlock)), IN a_0.Fuse, IN a_0.Keep, BO a_0.Off, IN a_0.Ops]] ([] : Fo) = some (BO r, ([] : Fo)) := by
  unfold p_spec_ValidFlash at h
  refine callW (fu := Try.f54) rfl rfl rfl NN ?_
  intro lp cl hlp hcl
  conv => lhs; whnf
  obtain ⟨y1, h_y1, h⟩ := callK_inv h
  rw [cl_eq hcl (L_spec_ValidGeometry a_0.Geo h_y1)]
  rotate_left
  · show _ = _; kernel_rfl
  · show _ = _; kernel_rfl
  conv => lhs; whnf
  cases hb2 : y1
  · replace h := ifF h (booF hb2); conv => lhs; whnf
    try (rw [hb2]; conv => lhs; whnf)
    try (rw [hb2]; conv => lhs; whnf)
    try (rw [hb2]; conv => lhs; whnf)
    try (rw [hb2]; conv => lhs; whnf)
    try (rw [hb2]; conv => lhs; whnf)
    try (rw [hb2]; conv => lhs; whnf)
    try (rw [hb2]; conv => lhs; whnf)
    try (rw [hb2]; conv => lhs; whnf)
    try (rw [hb2]; conv => lhs; whnf)
    try (rw [hb2]; conv => lhs; whnf)
    try (rw [hb2]; conv => lhs; whnf)
    obtain rfl := Option.some.inj h; show _ = _; kernel_rfl

  · replace h := ifT h hb2
    try rw [hb2] at h
    conv => lhs; whnf
    try (rw [hb2]; conv => lhs; whnf)
    try (rw [hb2]; conv => lhs; whnf)
    try rw [len_of (l := a_0.Blocks) (r := rBlock)]
    try (rw [hb2]; conv => lhs; whnf)
    try (rw [hb2]; conv => lhs; whnf)
    try (rw [hb2]; conv => lhs; whnf)
    try (rw [hb2]; conv => lhs; whnf)
    try (rw [hb2]; conv => lhs; whnf)
    try (rw [hb2]; conv => lhs; whnf)
    try (rw [hb2]; conv => lhs; whnf)
    try (rw [hb2]; conv => lhs; whnf)
    try (rw [hb2]; conv => lhs; whnf)
    cases hb3 : ((a_0.Blocks.length : Int) != (IntKind.i64.wrap (a_0.Geo.Dies * a_0.Geo.Blocks)))
    · replace h := ifF h ((fun h => not_not_intro (bneF h)) hb3); conv => lhs; whnf
      try (rw [hb3]; conv => lhs; whnf)
      try (rw [hb3]; conv => lhs; whnf)
      rw [cl_eq hcl (L_spec_l00In a_0.Fuse (-1) 1000000 (pl_l00In a_0.Fuse (-1) 1000000))]
      rotate_left
      · show _ = _; kernel_rfl
      · show _ = _; kernel_rfl
      conv => lhs; whnf
      try (rw [hb3]; conv => lhs; whnf)
      try (rw [hb3]; conv => lhs; whnf)
      cases hb4 : (inR a_0.Fuse (-1) 1000000)
      · replace h := ifF h (booF hb4); conv => lhs; whnf
        try (rw [hb4]; conv => lhs; whnf)
        try (rw [hb4]; conv => lhs; whnf)
        try (rw [hb4]; conv => lhs; whnf)
        try (rw [hb4]; conv => lhs; whnf)
        obtain rfl := Option.some.inj h; show _ = _; kernel_rfl

      · replace h := ifT h hb4; conv => lhs; whnf
        try (rw [hb4]; conv => lhs; whnf)
        try (rw [hb4]; conv => lhs; whnf)
        rw [cl_eq hcl (L_spec_l00In a_0.Keep 0 91 (pl_l00In a_0.Keep 0 91))]
        rotate_left
        · show _ = _; kernel_rfl
        · show _ = _; kernel_rfl
        conv => lhs; whnf
        try (rw [hb4]; conv => lhs; whnf)
        try (rw [hb4]; conv => lhs; whnf)
        cases hb5 : (inR a_0.Keep 0 91)
        · replace h := ifF h (booF hb5); conv => lhs; whnf
          try (rw [hb5]; conv => lhs; whnf)
          try (rw [hb5]; conv => lhs; whnf)
          try (rw [hb5]; conv => lhs; whnf)
          obtain rfl := Option.some.inj h; show _ = _; kernel_rfl

        · replace h := ifT h hb5; conv => lhs; whnf
          try (rw [hb5]; conv => lhs; whnf)
          try (rw [hb5]; conv => lhs; whnf)
          try (rw [hb5]; conv => lhs; whnf)
          cases hb6 : (decide (a_0.Ops < 0))
          · replace h := ifF h (decF hb6); conv => lhs; whnf
            obtain ⟨hl_i12, h⟩ := grd_inv h
            refine loop_for hlp (l := a_0.Blocks) hl_i12 (fun (i12 : Nat) (_ : Unit) => ([.dead, .bp 0 0, .dead, IN (i12 : Int)] ++ List.replicate 51 .dead : List V)) (fun (i12 : Nat) (_ : Unit) => ([some (.box [IN a_0.Geo.Dies, IN a_0.Geo.Blocks, IN a_0.Geo.Pages, .d (.arr (a_0.Blocks.map rBlock)), IN a_0.Fuse, IN a_0.Keep, BO a_0.Off, IN a_0.Ops])] : Fo)) (fun (r : Bool) => ((BO r : V), ([] : Fo))) ?_ ?_ () _ (fun kk => by kernel_rfl) h
            · clear h
              rintro next_nx13 nx13 i12 hi_i12 hnx13 ⟨⟩ r h
              try dsimp only at h
              have hn_i12 : i12 < 4611686018427387904 := by omega
              have hx_x14 := get_map rBlock a_0.Blocks i12 hi_i12
              generalize a_0.Blocks[i12] = x14 at h hx_x14
              have hd_i12 : (decide ((i12 : Int) < (a_0.Blocks.length : Int))) = true := decide_eq_true (by omega)
              conv => lhs; whnf
              try rw [len_of (l := a_0.Blocks) (r := rBlock)]
              rw [hd_i12]
              conv => lhs; whnf
              try (rw [decide_eq_true hq_x14]; conv => lhs; whnf)
              rw [hx_x14]
              conv => lhs; whnf
              rw [hx_x14]
              conv => lhs; whnf
              obtain ⟨y15, h_y15, h⟩ := callK_inv h
              rw [cl_eq hcl (L_spec_l06Block x14 a_0.Geo.Pages h_y15)]
              rotate_left
              · show _ = _; kernel_rfl
              · show _ = _; kernel_rfl
              conv => lhs; whnf
              cases hb16 : y15
              · replace h := ifF h (booF hb16); conv => lhs; whnf
                obtain rfl := Option.some.inj h; show _ = _; kernel_rfl

              · replace h := ifT h hb16; conv => lhs; whnf
                rw [wrap_nat i12 (by have := hn_i12; omega)]
                exact hnx13 _ _ _ _ (fun kk => by kernel_rfl) h
            · clear h
              rintro next_nx13 ⟨⟩ r h
              try dsimp only at h
              have hd_i12 : (decide ((a_0.Blocks.length : Int) < (a_0.Blocks.length : Int))) = false := decide_eq_false (by omega)
              conv => lhs; whnf
              try rw [len_of (l := a_0.Blocks) (r := rBlock)]
              rw [hd_i12]
              conv => lhs; whnf
              obtain rfl := Option.some.inj h; show _ = _; kernel_rfl

          · replace h := ifT h (decT hb6); conv => lhs; whnf
            obtain rfl := Option.some.inj h; show _ = _; kernel_rfl

    · replace h := ifT h (bneT hb3); conv => lhs; whnf
      try (rw [hb3]; conv => lhs; whnf)
      try (rw [hb3]; conv => lhs; whnf)
      try (rw [hb3]; conv => lhs; whnf)
      try (rw [hb3]; conv => lhs; whnf)
      obtain rfl := Option.some.inj h; show _ = _; kernel_rfl


noncomputable def p_spec_ValidFault (a_0 : Geometry) (a_1 : Fault) : Option Bool :=
  callK (p_spec_ValidGeometry a_0) fun y1 =>
  if y1 = true then
    if a_1.Kind = 1 then
      if (inR a_1.Block 0 (IntKind.i64.wrap ((IntKind.i64.wrap (a_0.Dies * a_0.Blocks)) - 1))) = true then
        if (inR a_1.Page 0 (IntKind.i64.wrap (a_0.Pages - 1))) = true then
          some (inR a_1.Bit 0 727)
        else
          some false
      else
        some false
    else
      if a_1.Kind = 2 then
        if (inR a_1.Block 0 (IntKind.i64.wrap ((IntKind.i64.wrap (a_0.Dies * a_0.Blocks)) - 1))) = true then
          if (inR a_1.Page 0 (IntKind.i64.wrap (a_0.Pages - 1))) = true then
            some (inR a_1.Bit 0 727)
          else
            some false
        else
          some false
      else
        if a_1.Kind = 3 then
          if (inR a_1.Block 0 (IntKind.i64.wrap ((IntKind.i64.wrap (a_0.Dies * a_0.Blocks)) - 1))) = true then
            if (inR a_1.Bit 0 727) = true then
              some (a_1.Page == 0)
            else
              some false
          else
            some false
        else
          if a_1.Kind = 4 then
            if (inR a_1.Block 0 (IntKind.i64.wrap ((IntKind.i64.wrap (a_0.Dies * a_0.Blocks)) - 1))) = true then
              if a_1.Page = 0 then
                some (a_1.Bit == 0)
              else
                some false
            else
              some false
          else
            if a_1.Kind = 5 then
              if a_1.Block = 0 then
                if (inR a_1.Page 0 1000000) = true then
                  some (inR a_1.Bit 0 91)
                else
                  some false
              else
                some false
            else
              some false
  else
    some false

set_option maxHeartbeats 4000000 in
theorem L_spec_ValidFault (a_0 : Geometry) (a_1 : Fault) {r : Bool} (h : p_spec_ValidFault a_0 a_1 = some r) : callL E 195 [.agg [IN a_0.Dies, IN a_0.Blocks, IN a_0.Pages], .agg [IN a_1.Kind, IN a_1.Block, IN a_1.Page, IN a_1.Bit]] ([] : Fo) = some (BO r, ([] : Fo)) := by
  unfold p_spec_ValidFault at h
  refine callW (fu := Try.f195) rfl rfl rfl NN ?_
  intro lp cl hlp hcl
  conv => lhs; whnf
  obtain ⟨y1, h_y1, h⟩ := callK_inv h
  rw [cl_eq hcl (L_spec_ValidGeometry a_0 h_y1)]
  rotate_left
  · show _ = _; kernel_rfl
  · show _ = _; kernel_rfl
  conv => lhs; whnf
  cases hb2 : y1
  · replace h := ifF h (booF hb2); conv => lhs; whnf
    obtain rfl := Option.some.inj h; show _ = _; kernel_rfl

  · replace h := ifT h hb2; conv => lhs; whnf
    rw [cl_eq hcl (L_spec_l00In a_1.Block 0 (IntKind.i64.wrap ((IntKind.i64.wrap (a_0.Dies * a_0.Blocks)) - 1)) (pl_l00In a_1.Block 0 (IntKind.i64.wrap ((IntKind.i64.wrap (a_0.Dies * a_0.Blocks)) - 1))))]
    rotate_left
    · show _ = _; kernel_rfl
    · show _ = _; kernel_rfl
    conv => lhs; whnf
    rw [cl_eq hcl (L_spec_l00In a_1.Page 0 (IntKind.i64.wrap (a_0.Pages - 1)) (pl_l00In a_1.Page 0 (IntKind.i64.wrap (a_0.Pages - 1))))]
    rotate_left
    · show _ = _; kernel_rfl
    · show _ = _; kernel_rfl
    conv => lhs; whnf
    rw [cl_eq hcl (L_spec_l00In a_1.Bit 0 727 (pl_l00In a_1.Bit 0 727))]
    rotate_left
    · show _ = _; kernel_rfl
    · show _ = _; kernel_rfl
    conv => lhs; whnf
    cases hb3 : (a_1.Kind == 1)
    · replace h := ifF h (beqF hb3); conv => lhs; whnf
      cases hb6 : (a_1.Kind == 2)
      · replace h := ifF h (beqF hb6); conv => lhs; whnf
        cases hb9 : (a_1.Kind == 3)
        · replace h := ifF h (beqF hb9); conv => lhs; whnf
          cases hb12 : (a_1.Kind == 4)
          · replace h := ifF h (beqF hb12); conv => lhs; whnf
            cases hb15 : (a_1.Kind == 5)
            · replace h := ifF h (beqF hb15); conv => lhs; whnf
              obtain rfl := Option.some.inj h; show _ = _; kernel_rfl

            · replace h := ifT h (beqT hb15); conv => lhs; whnf
              cases hb16 : (a_1.Block == 0)
              · replace h := ifF h (beqF hb16); conv => lhs; whnf
                try (rw [hb16]; conv => lhs; whnf)
                try (rw [hb16]; conv => lhs; whnf)
                try (rw [hb16]; conv => lhs; whnf)
                obtain rfl := Option.some.inj h; show _ = _; kernel_rfl

              · replace h := ifT h (beqT hb16); conv => lhs; whnf
                try (rw [hb16]; conv => lhs; whnf)
                try (rw [hb16]; conv => lhs; whnf)
                rw [cl_eq hcl (L_spec_l00In a_1.Page 0 1000000 (pl_l00In a_1.Page 0 1000000))]
                rotate_left
                · show _ = _; kernel_rfl
                · show _ = _; kernel_rfl
                conv => lhs; whnf
                try (rw [hb16]; conv => lhs; whnf)
                cases hb17 : (inR a_1.Page 0 1000000)
                · replace h := ifF h (booF hb17); conv => lhs; whnf
                  try (rw [hb17]; conv => lhs; whnf)
                  try (rw [hb17]; conv => lhs; whnf)
                  try (rw [hb17]; conv => lhs; whnf)
                  obtain rfl := Option.some.inj h; show _ = _; kernel_rfl

                · replace h := ifT h hb17; conv => lhs; whnf
                  try (rw [hb17]; conv => lhs; whnf)
                  try (rw [hb17]; conv => lhs; whnf)
                  rw [cl_eq hcl (L_spec_l00In a_1.Bit 0 91 (pl_l00In a_1.Bit 0 91))]
                  rotate_left
                  · show _ = _; kernel_rfl
                  · show _ = _; kernel_rfl
                  conv => lhs; whnf
                  try (rw [hb17]; conv => lhs; whnf)
                  obtain rfl := Option.some.inj h; show _ = _; kernel_rfl

          · replace h := ifT h (beqT hb12); conv => lhs; whnf
            cases hb13 : (inR a_1.Block 0 (IntKind.i64.wrap ((IntKind.i64.wrap (a_0.Dies * a_0.Blocks)) - 1)))
            · replace h := ifF h (booF hb13); conv => lhs; whnf
              try (rw [hb13]; conv => lhs; whnf)
              try (rw [hb13]; conv => lhs; whnf)
              try (rw [hb13]; conv => lhs; whnf)
              obtain rfl := Option.some.inj h; show _ = _; kernel_rfl

            · replace h := ifT h hb13; conv => lhs; whnf
              try (rw [hb13]; conv => lhs; whnf)
              try (rw [hb13]; conv => lhs; whnf)
              try (rw [hb13]; conv => lhs; whnf)
              cases hb14 : (a_1.Page == 0)
              · replace h := ifF h (beqF hb14); conv => lhs; whnf
                try (rw [hb14]; conv => lhs; whnf)
                try (rw [hb14]; conv => lhs; whnf)
                try (rw [hb14]; conv => lhs; whnf)
                obtain rfl := Option.some.inj h; show _ = _; kernel_rfl

              · replace h := ifT h (beqT hb14); conv => lhs; whnf
                try (rw [hb14]; conv => lhs; whnf)
                try (rw [hb14]; conv => lhs; whnf)
                try (rw [hb14]; conv => lhs; whnf)
                obtain rfl := Option.some.inj h; show _ = _; kernel_rfl

        · replace h := ifT h (beqT hb9); conv => lhs; whnf
          cases hb10 : (inR a_1.Block 0 (IntKind.i64.wrap ((IntKind.i64.wrap (a_0.Dies * a_0.Blocks)) - 1)))
          · replace h := ifF h (booF hb10); conv => lhs; whnf
            try (rw [hb10]; conv => lhs; whnf)
            obtain rfl := Option.some.inj h; show _ = _; kernel_rfl

          · replace h := ifT h hb10; conv => lhs; whnf
            try (rw [hb10]; conv => lhs; whnf)
            cases hb11 : (inR a_1.Bit 0 727)
            · replace h := ifF h (booF hb11); conv => lhs; whnf
              try (rw [hb11]; conv => lhs; whnf)
              try (rw [hb11]; conv => lhs; whnf)
              try (rw [hb11]; conv => lhs; whnf)
              obtain rfl := Option.some.inj h; show _ = _; kernel_rfl

            · replace h := ifT h hb11; conv => lhs; whnf
              try (rw [hb11]; conv => lhs; whnf)
              try (rw [hb11]; conv => lhs; whnf)
              try (rw [hb11]; conv => lhs; whnf)
              obtain rfl := Option.some.inj h; show _ = _; kernel_rfl

      · replace h := ifT h (beqT hb6); conv => lhs; whnf
        cases hb7 : (inR a_1.Block 0 (IntKind.i64.wrap ((IntKind.i64.wrap (a_0.Dies * a_0.Blocks)) - 1)))
        · replace h := ifF h (booF hb7); conv => lhs; whnf
          try (rw [hb7]; conv => lhs; whnf)
          obtain rfl := Option.some.inj h; show _ = _; kernel_rfl

        · replace h := ifT h hb7; conv => lhs; whnf
          try (rw [hb7]; conv => lhs; whnf)
          cases hb8 : (inR a_1.Page 0 (IntKind.i64.wrap (a_0.Pages - 1)))
          · replace h := ifF h (booF hb8); conv => lhs; whnf
            try (rw [hb8]; conv => lhs; whnf)
            obtain rfl := Option.some.inj h; show _ = _; kernel_rfl

          · replace h := ifT h hb8; conv => lhs; whnf
            try (rw [hb8]; conv => lhs; whnf)
            obtain rfl := Option.some.inj h; show _ = _; kernel_rfl

    · replace h := ifT h (beqT hb3); conv => lhs; whnf
      try (rw [hb3]; conv => lhs; whnf)
      cases hb4 : (inR a_1.Block 0 (IntKind.i64.wrap ((IntKind.i64.wrap (a_0.Dies * a_0.Blocks)) - 1)))
      · replace h := ifF h (booF hb4); conv => lhs; whnf
        try (rw [hb4]; conv => lhs; whnf)
        obtain rfl := Option.some.inj h; show _ = _; kernel_rfl

      · replace h := ifT h hb4; conv => lhs; whnf
        try (rw [hb4]; conv => lhs; whnf)
        cases hb5 : (inR a_1.Page 0 (IntKind.i64.wrap (a_0.Pages - 1)))
        · replace h := ifF h (booF hb5); conv => lhs; whnf
          try (rw [hb5]; conv => lhs; whnf)
          obtain rfl := Option.some.inj h; show _ = _; kernel_rfl

        · replace h := ifT h hb5; conv => lhs; whnf
          try (rw [hb5]; conv => lhs; whnf)
          obtain rfl := Option.some.inj h; show _ = _; kernel_rfl


noncomputable def p_spec_l08Script (a_0 : Geometry) (a_1 : List Fault) : Option Bool :=
  callK (p_spec_ValidGeometry a_0) fun y1 =>
  if y1 = true then
    if (a_1.length : Int) > 40 then
      some false
    else
      grd (a_1.length < 4611686018427387904) <|
      forK a_1 (fun (i9 : Nat) x11 (_ : Unit) (nx10 : Unit → Option _) =>
        callK (p_spec_ValidFault a_0 x11) fun y12 =>
        if y12 = true then
          nx10 ()
        else
          some false) () (fun (_ : Unit) =>
        some true)
  else
    some false

set_option maxHeartbeats 4000000 in
theorem L_spec_l08Script (a_0 : Geometry) (a_1 : List Fault) {r : Bool} (h : p_spec_l08Script a_0 a_1 = some r) : callL E 111 [.agg [IN a_0.Dies, IN a_0.Blocks, IN a_0.Pages], .d (.arr (a_1.map rFault))] ([] : Fo) = some (BO r, ([] : Fo)) := by
  unfold p_spec_l08Script at h
  refine callW (fu := Try.f111) rfl rfl rfl NN ?_
  intro lp cl hlp hcl
  conv => lhs; whnf
  obtain ⟨y1, h_y1, h⟩ := callK_inv h
  rw [cl_eq hcl (L_spec_ValidGeometry a_0 h_y1)]
  rotate_left
  · show _ = _; kernel_rfl
  · show _ = _; kernel_rfl
  conv => lhs; whnf
  cases hb2 : y1
  · replace h := ifF h (booF hb2); conv => lhs; whnf
    try (rw [hb2]; conv => lhs; whnf)
    try (rw [hb2]; conv => lhs; whnf)
    try (rw [hb2]; conv => lhs; whnf)
    obtain rfl := Option.some.inj h; show _ = _; kernel_rfl

  · replace h := ifT h hb2
    try rw [hb2] at h
    conv => lhs; whnf
    try (rw [hb2]; conv => lhs; whnf)
    try rw [len_of (l := a_1) (r := rFault)]
    try (rw [hb2]; conv => lhs; whnf)
    try (rw [hb2]; conv => lhs; whnf)
    cases hb3 : (decide ((a_1.length : Int) > 40))
    · replace h := ifF h (decF hb3); conv => lhs; whnf
      obtain ⟨hl_i9, h⟩ := grd_inv h
      refine loop_for hlp (l := a_1) hl_i9 (fun (i9 : Nat) (_ : Unit) => ([.dead, .d (.arr (a_1.map rFault)), .bp 0 0, .dead, .dead, IN (i9 : Int)] ++ List.replicate 21 .dead : List V)) (fun (i9 : Nat) (_ : Unit) => ([some (.box [IN a_0.Dies, IN a_0.Blocks, IN a_0.Pages])] : Fo)) (fun (r : Bool) => ((BO r : V), ([] : Fo))) ?_ ?_ () _ (fun kk => by kernel_rfl) h
      · clear h
        rintro next_nx10 nx10 i9 hi_i9 hnx10 ⟨⟩ r h
        try dsimp only at h
        have hn_i9 : i9 < 4611686018427387904 := by omega
        have hx_x11 := get_map rFault a_1 i9 hi_i9
        generalize a_1[i9] = x11 at h hx_x11
        have hd_i9 : (decide ((i9 : Int) < (a_1.length : Int))) = true := decide_eq_true (by omega)
        conv => lhs; whnf
        try rw [len_of (l := a_1) (r := rFault)]
        rw [hd_i9]
        conv => lhs; whnf
        try (rw [decide_eq_true hq_x11]; conv => lhs; whnf)
        rw [hx_x11]
        conv => lhs; whnf
        rw [hx_x11]
        conv => lhs; whnf
        obtain ⟨y12, h_y12, h⟩ := callK_inv h
        rw [cl_eq hcl (L_spec_ValidFault a_0 x11 h_y12)]
        rotate_left
        · show _ = _; kernel_rfl
        · show _ = _; kernel_rfl
        conv => lhs; whnf
        cases hb13 : y12
        · replace h := ifF h (booF hb13); conv => lhs; whnf
          obtain rfl := Option.some.inj h; show _ = _; kernel_rfl

        · replace h := ifT h hb13; conv => lhs; whnf
          rw [wrap_nat i9 (by have := hn_i9; omega)]
          exact hnx10 _ _ _ _ (fun kk => by kernel_rfl) h
      · clear h
        rintro next_nx10 ⟨⟩ r h
        try dsimp only at h
        have hd_i9 : (decide ((a_1.length : Int) < (a_1.length : Int))) = false := decide_eq_false (by omega)
        conv => lhs; whnf
        try rw [len_of (l := a_1) (r := rFault)]
        rw [hd_i9]
        conv => lhs; whnf
        obtain rfl := Option.some.inj h; show _ = _; kernel_rfl

    · replace h := ifT h (decT hb3); conv => lhs; whnf
      obtain rfl := Option.some.inj h; show _ = _; kernel_rfl


noncomputable def p_spec_l08Cuts (a_0 : List Fault) : Option Bool :=
  grd (a_0.length < 4611686018427387904) <|
  forK a_0 (fun (i5 : Nat) x7 (_ : Unit) (nx6 : Unit → Option _) =>
    if x7.Kind = 5 then
      some true
    else
      nx6 ()) () (fun (_ : Unit) =>
    some false)

set_option maxHeartbeats 4000000 in
theorem L_spec_l08Cuts (a_0 : List Fault) {r : Bool} (h : p_spec_l08Cuts a_0 = some r) : callL E 112 [.d (.arr (a_0.map rFault))] ([] : Fo) = some (BO r, ([] : Fo)) := by
  unfold p_spec_l08Cuts at h
  refine callW (fu := Try.f112) rfl rfl rfl NN ?_
  intro lp cl hlp hcl
  conv => lhs; whnf
  obtain ⟨hl_i5, h⟩ := grd_inv h
  refine loop_for hlp (l := a_0) hl_i5 (fun (i5 : Nat) (_ : Unit) => ([.d (.arr (a_0.map rFault)), .dead, .dead, IN (i5 : Int)] ++ List.replicate 12 .dead : List V)) (fun (i5 : Nat) (_ : Unit) => ([] : Fo)) (fun (r : Bool) => ((BO r : V), ([] : Fo))) ?_ ?_ () _ (fun kk => by kernel_rfl) h
  · clear h
    rintro next_nx6 nx6 i5 hi_i5 hnx6 ⟨⟩ r h
    try dsimp only at h
    have hn_i5 : i5 < 4611686018427387904 := by omega
    have hx_x7 := get_map rFault a_0 i5 hi_i5
    generalize a_0[i5] = x7 at h hx_x7
    have hd_i5 : (decide ((i5 : Int) < (a_0.length : Int))) = true := decide_eq_true (by omega)
    conv => lhs; whnf
    try rw [len_of (l := a_0) (r := rFault)]
    rw [hd_i5]
    conv => lhs; whnf
    try (rw [decide_eq_true hq_x7]; conv => lhs; whnf)
    rw [hx_x7]
    conv => lhs; whnf
    rw [hx_x7]
    conv => lhs; whnf
    cases hb8 : (x7.Kind == 5)
    · replace h := ifF h (beqF hb8); conv => lhs; whnf
      rw [wrap_nat i5 (by have := hn_i5; omega)]
      exact hnx6 _ _ _ _ (fun kk => by kernel_rfl) h
    · replace h := ifT h (beqT hb8); conv => lhs; whnf
      obtain rfl := Option.some.inj h; show _ = _; kernel_rfl

  · clear h
    rintro next_nx6 ⟨⟩ r h
    try dsimp only at h
    have hd_i5 : (decide ((a_0.length : Int) < (a_0.length : Int))) = false := decide_eq_false (by omega)
    conv => lhs; whnf
    try rw [len_of (l := a_0) (r := rFault)]
    rw [hd_i5]
    conv => lhs; whnf
    obtain rfl := Option.some.inj h; show _ = _; kernel_rfl


noncomputable def p_spec_l15Own (a_0 : Flash) : Option (List Block) :=
  grd (a_0.Blocks.length < 4611686018427387904) <|
  forK a_0.Blocks (fun (i5 : Nat) x8 (v6 : List Block) (nx7 : (List Block) → Option _) =>
    grd (appOk (0 + x8.Pages.length) 16 = true) <|
    grd (appOk (v6.length + 1) 48 = true) <|
    nx7 (v6 ++ ([x8] : List Block))) ([] : List Block) (fun (v6 : List Block) =>
    some v6)

set_option maxHeartbeats 4000000 in
theorem L_spec_l15Own (a_0 : Flash) {r : (List Block)} (h : p_spec_l15Own a_0 = some r) : callL E 113 [.agg [IN a_0.Geo.Dies, IN a_0.Geo.Blocks, IN a_0.Geo.Pages, .d (.arr (a_0.Blocks.map rBlock)), IN a_0.Fuse, IN a_0.Keep, BO a_0.Off, IN a_0.Ops]] ([] : Fo) = some (.agg [IN a_0.Geo.Dies, IN a_0.Geo.Blocks, IN a_0.Geo.Pages, .nsl 0, IN a_0.Fuse, IN a_0.Keep, BO a_0.Off, IN a_0.Ops], ([some (.nst ⟨91, 4, 3, 9, 1⟩ r.length (r.map rBlock))] : Fo)) := by
  unfold p_spec_l15Own at h
  refine callW (fu := Try.f113) rfl rfl rfl NN ?_
  intro lp cl hlp hcl
  conv => lhs; whnf
  obtain ⟨hl_i5, h⟩ := grd_inv h
  refine loop_for hlp (l := a_0.Blocks) hl_i5 (fun (i5 : Nat) (v6 : List Block) => ([.dead, .bp 0 0, .bp 1 0, .bp 2 0, IN (i5 : Int)] ++ List.replicate 28 .dead : List V)) (fun (i5 : Nat) (v6 : List Block) => ([some (.box [IN a_0.Geo.Dies, IN a_0.Geo.Blocks, IN a_0.Geo.Pages, .d (.arr (a_0.Blocks.map rBlock)), IN a_0.Fuse, IN a_0.Keep, BO a_0.Off, IN a_0.Ops]), some (.box [IN 0, IN 0, IN 0, .d (.arr (([] : List Block).map rBlock)), IN 0, IN 0, BO false, IN 0]), some (.box [IN a_0.Geo.Dies, IN a_0.Geo.Blocks, IN a_0.Geo.Pages, .nsl 3, IN a_0.Fuse, IN a_0.Keep, BO a_0.Off, IN a_0.Ops]), some (.nst ⟨91, 4, 3, 9, 1⟩ v6.length (v6.map rBlock))] : Fo)) (fun (r : (List Block)) => ((.agg [IN a_0.Geo.Dies, IN a_0.Geo.Blocks, IN a_0.Geo.Pages, .nsl 0, IN a_0.Fuse, IN a_0.Keep, BO a_0.Off, IN a_0.Ops] : V), ([some (.nst ⟨91, 4, 3, 9, 1⟩ r.length (r.map rBlock))] : Fo))) ?_ ?_ ([] : List Block) _ (fun kk => by kernel_rfl) h
  · clear h
    rintro next_nx7 nx7 i5 hi_i5 hnx7 v6 r h
    try dsimp only at h
    have hn_i5 : i5 < 4611686018427387904 := by omega
    have hx_x8 := get_map rBlock a_0.Blocks i5 hi_i5
    generalize a_0.Blocks[i5] = x8 at h hx_x8
    have hd_i5 : (decide ((i5 : Int) < (a_0.Blocks.length : Int))) = true := decide_eq_true (by omega)
    conv => lhs; whnf
    try rw [len_of (l := a_0.Blocks) (r := rBlock)]
    rw [hd_i5]
    conv => lhs; whnf
    try (rw [decide_eq_true hq_x8]; conv => lhs; whnf)
    rw [hx_x8]
    conv => lhs; whnf
    rw [hx_x8]
    conv => lhs; whnf
    obtain ⟨hg9, h⟩ := grd_inv h
    rw [app_eq hg9 ?h1 ?h2]
    case h1 => first | exact rfl | (simp only [List.length_map, List.length_cons, List.length_nil]; done) | (rw [List.length_map]; rfl)
    case h2 => exact rfl
    conv => lhs; whnf
    rw [allLen_map rS _ rS_len]
    conv => lhs; whnf
    first | (rw [nil_app_of (r := rS) (m := x8.Pages) ?hh]; case hh => exact rfl) | skip
    conv => lhs; whnf
    try (rw [beq_len (n := v6.length) (l := v6) (by simp only [List.length_set, List.length_append, List.length_cons, List.length_nil, Nat.zero_add])]; conv => lhs; whnf)
    obtain ⟨hg10, h⟩ := grd_inv h
    rw [app_eq hg10 ?h1 ?h2]
    case h1 => first | exact rfl | (rw [List.length_map]; done) | (rw [List.length_map]; rfl)
    case h2 => exact rfl
    conv => lhs; whnf
    first | (rw [map_app_of (r := rBlock) (l := v6) (m := ([x8] : List Block)) ?hh]; case hh => exact rfl) | skip
    rw [wrap_nat i5 (by have := hn_i5; omega)]
    exact hnx7 _ _ _ _ (fun kk => by (try simp only [List.length_set, List.length_append, List.length_cons, List.length_nil, Nat.zero_add]); kernel_rfl) h
  · clear h
    rintro next_nx7 v6 r h
    try dsimp only at h
    have hd_i5 : (decide ((a_0.Blocks.length : Int) < (a_0.Blocks.length : Int))) = false := decide_eq_false (by omega)
    conv => lhs; whnf
    try rw [len_of (l := a_0.Blocks) (r := rBlock)]
    rw [hd_i5]
    conv => lhs; whnf
    obtain rfl := Option.some.inj h; show _ = _; kernel_rfl


noncomputable def p_spec_FlipPageBit (a_0 : ByteArray) (a_1 : Int) : Option (ByteArray × Int) :=
  if ¬ (ByteArray.size a_0 : Int) = 91 then
    some ((⟨#[]⟩ : ByteArray), 1)
  else
    if (inR a_1 0 727) = true then
      grd (appOk (ByteArray.size a_0) 1 = true) <|
      getK (bytesL a_0) (IntKind.i64.wrap (Int.tdiv a_1 8)) fun x3 =>
      grd (0 ≤ (IntKind.u64.wrap (Int.tmod a_1 8))) <|
      some ((bytesOf (((bytesL a_0).set (Int.toNat (IntKind.i64.wrap (Int.tdiv a_1 8))) (xorK .u8 x3 (IntKind.u8.wrap (1 * 2 ^ (min (Int.toNat (IntKind.u64.wrap (Int.tmod a_1 8))) IntKind.u8.bits))))).map rU)), 0)
    else
      some ((⟨#[]⟩ : ByteArray), 2)

set_option maxHeartbeats 4000000 in
theorem L_spec_FlipPageBit (a_0 : ByteArray) (a_1 : Int) {r : (ByteArray × Int)} (h : p_spec_FlipPageBit a_0 a_1 = some r) : callL E 238 [ST a_0, IN a_1] ([] : Fo) = some (.tup [ST r.1, IN r.2], ([] : Fo)) := by
  unfold p_spec_FlipPageBit at h
  refine callW (fu := Try.f238) rfl rfl rfl NN ?_
  intro lp cl hlp hcl
  conv => lhs; whnf
  cases hb1 : ((ByteArray.size a_0 : Int) != 91)
  · replace h := ifF h ((fun h => not_not_intro (bneF h)) hb1); conv => lhs; whnf
    rw [cl_eq hcl (L_spec_l00In a_1 0 727 (pl_l00In a_1 0 727))]
    rotate_left
    · show _ = _; kernel_rfl
    · show _ = _; kernel_rfl
    conv => lhs; whnf
    cases hb2 : (inR a_1 0 727)
    · replace h := ifF h (booF hb2); conv => lhs; whnf
      obtain rfl := Option.some.inj h; show _ = _; kernel_rfl

    · replace h := ifT h hb2; conv => lhs; whnf
      obtain ⟨hg4, h⟩ := grd_inv h
      rw [hg4]
      conv => lhs; whnf
      conv => lhs; whnf
      try rw [bytesL_of]
      try (rw [quo_run _ _ _ 8 (by decide)]; conv => lhs; whnf)
      conv => lhs; whnf
      try (rw [quo_run _ _ _ 8 (by decide)]; conv => lhs; whnf)
      conv => lhs; whnf
      obtain ⟨x3, hq_x3, hx_x3', h⟩ := getK_inv h
      have hx_x3 := get_of (r := rU) hx_x3'
      try (rw [decide_eq_true hq_x3]; conv => lhs; whnf)
      rw [hx_x3]
      conv => lhs; whnf
      rw [hx_x3]
      conv => lhs; whnf
      try (rw [rem_run _ _ _ 8 (by decide)]; conv => lhs; whnf)
      conv => lhs; whnf
      obtain ⟨hg5, h⟩ := grd_inv h
      try (rw [shl_run _ _ _ _ _ hg5]; conv => lhs; whnf)
      conv => lhs; whnf
      try (rw [decide_eq_true hq_x3]; conv => lhs; whnf)
      rw [hx_x3]
      conv => lhs; whnf
      rw [hx_x3]
      conv => lhs; whnf
      first | (rw [map_set_of (r := rU) (l := (bytesL a_0)) (x := (xorK .u8 x3 (IntKind.u8.wrap (1 * 2 ^ (min (Int.toNat (IntKind.u64.wrap (Int.tmod a_1 8))) IntKind.u8.bits))))) ?hh]; case hh => exact rfl) | skip
      try rw [byteRows_rU]
      conv => lhs; whnf
      obtain rfl := Option.some.inj h; show _ = _; kernel_rfl

  · replace h := ifT h (bneT hb1); conv => lhs; whnf
    obtain rfl := Option.some.inj h; show _ = _; kernel_rfl


noncomputable def p_spec_l08Flip (a_0 : Int) (a_1 : Int) (a_2 : Int) (a_3 : Int) (a_4 : Int) (a_5 : Bool) (a_6 : Int) (a_7 : Int) (a_8 : Int) (a_9 : Int) (a_10 : List Block) : Option (List Block) :=
  getK a_10 a_7 fun x1 =>
  if a_8 ≥ x1.Next then
    some a_10
  else
    getK x1.Pages a_8 fun x3 =>
    if (x3.toList == (⟨#[]⟩ : ByteArray).toList) = true then
      some a_10
    else
      callK (p_spec_FlipPageBit x3 a_9) fun y5 =>
      some (a_10.set (Int.toNat a_7) (⟨x1.Erases, x1.Next, x1.Bad, (x1.Pages.set (Int.toNat a_8) y5.1)⟩ : Block))

set_option maxHeartbeats 4000000 in
theorem L_spec_l08Flip (a_0 : Int) (a_1 : Int) (a_2 : Int) (a_3 : Int) (a_4 : Int) (a_5 : Bool) (a_6 : Int) (a_7 : Int) (a_8 : Int) (a_9 : Int) (a_10 : List Block) {r : (List Block)} (h : p_spec_l08Flip a_0 a_1 a_2 a_3 a_4 a_5 a_6 a_7 a_8 a_9 a_10 = some r) : callL E 196 [.agg [IN a_0, IN a_1, IN a_2, .nsl 0, IN a_3, IN a_4, BO a_5, IN a_6], IN a_7, IN a_8, IN a_9] ([some (.nst ⟨91, 4, 3, 9, 1⟩ a_10.length (a_10.map rBlock))] : Fo) = some (.tup [], ([some (.nst ⟨91, 4, 3, 9, 1⟩ r.length (r.map rBlock))] : Fo)) := by
  unfold p_spec_l08Flip at h
  refine callW (fu := Try.f196) rfl rfl rfl NN ?_
  intro lp cl hlp hcl
  conv => lhs; whnf
  obtain ⟨x1, hq_x1, hx_x1', h⟩ := getK_inv h
  have hx_x1 := get_of (r := rBlock) hx_x1'
  try (rw [decide_eq_true hq_x1]; conv => lhs; whnf)
  rw [hx_x1]
  conv => lhs; whnf
  rw [hx_x1]
  conv => lhs; whnf
  cases hb2 : (decide (a_8 ≥ x1.Next))
  · replace h := ifF h (decF hb2); conv => lhs; whnf
    try (rw [hb2]; conv => lhs; whnf)
    try (rw [hb2]; conv => lhs; whnf)
    try (rw [hb2]; conv => lhs; whnf)
    rw [hx_x1]
    conv => lhs; whnf
    conv => lhs; whnf
    try (rw [blt_of_len (n := a_10.length) hx_x1 (by simp only [List.length_set, List.length_append, List.length_cons, List.length_nil, Nat.zero_add])]; conv => lhs; whnf)
    try (rw [hb2]; conv => lhs; whnf)
    try (rw [hb2]; conv => lhs; whnf)
    rw [hx_x1]
    conv => lhs; whnf
    obtain ⟨x3, hq_x3, hx_x3', h⟩ := getK_inv h
    have hx_x3 := get_of (r := rS) hx_x3'
    try (rw [decide_eq_true hq_x3]; conv => lhs; whnf)
    rw [hx_x3]
    conv => lhs; whnf
    try (rw [hb2]; conv => lhs; whnf)
    rw [hx_x1]
    conv => lhs; whnf
    rw [hx_x3]
    conv => lhs; whnf
    try (rw [hb2]; conv => lhs; whnf)
    try (rw [hb2]; conv => lhs; whnf)
    cases hb4 : (x3.toList == (⟨#[]⟩ : ByteArray).toList)
    · replace h := ifF h (booF hb4); conv => lhs; whnf
      rw [hx_x1]
      conv => lhs; whnf
      conv => lhs; whnf
      try (rw [blt_of_len (n := a_10.length) hx_x1 (by simp only [List.length_set, List.length_append, List.length_cons, List.length_nil, Nat.zero_add])]; conv => lhs; whnf)
      rw [hx_x1]
      conv => lhs; whnf
      try (rw [decide_eq_true hq_x3]; conv => lhs; whnf)
      rw [hx_x3]
      conv => lhs; whnf
      rw [hx_x1]
      conv => lhs; whnf
      rw [hx_x3]
      conv => lhs; whnf
      obtain ⟨y5, h_y5, h⟩ := callK_inv h
      rw [cl_eq hcl (L_spec_FlipPageBit x3 a_9 h_y5)]
      rotate_left
      · show _ = _; kernel_rfl
      · show _ = _; kernel_rfl
      conv => lhs; whnf
      rw [hx_x1]
      conv => lhs; whnf
      conv => lhs; whnf
      try (rw [blt_of_len (n := a_10.length) hx_x1 (by simp only [List.length_set, List.length_append, List.length_cons, List.length_nil, Nat.zero_add])]; conv => lhs; whnf)
      rw [hx_x1]
      conv => lhs; whnf
      try (rw [decide_eq_true hq_x3]; conv => lhs; whnf)
      rw [hx_x3]
      conv => lhs; whnf
      rw [hx_x1]
      conv => lhs; whnf
      rw [hx_x3]
      conv => lhs; whnf
      first | (rw [map_set_of (r := rS) (l := x1.Pages) (x := y5.1) ?hh]; case hh => exact rfl) | skip
      first | (rw [map_set_of (r := rBlock) (l := a_10) (x := (⟨x1.Erases, x1.Next, x1.Bad, (x1.Pages.set (Int.toNat a_8) y5.1)⟩ : Block)) ?hh]; case hh => exact rfl) | skip
      obtain rfl := Option.some.inj h
      try (conv => rhs; simp only [List.length_set, List.length_append, List.length_cons, List.length_nil, Nat.zero_add])
      show _ = _; kernel_rfl
    · replace h := ifT h hb4; conv => lhs; whnf
      obtain rfl := Option.some.inj h; show _ = _; kernel_rfl

  · replace h := ifT h (decT hb2); conv => lhs; whnf
    try (rw [hb2]; conv => lhs; whnf)
    try (rw [hb2]; conv => lhs; whnf)
    try (rw [hb2]; conv => lhs; whnf)
    try (rw [hb2]; conv => lhs; whnf)
    try (rw [hb2]; conv => lhs; whnf)
    try (rw [hb2]; conv => lhs; whnf)
    try (rw [hb2]; conv => lhs; whnf)
    try (rw [hb2]; conv => lhs; whnf)
    obtain rfl := Option.some.inj h; show _ = _; kernel_rfl


noncomputable def p_spec_l08Apply (a_0 : Int) (a_1 : Int) (a_2 : Int) (a_3 : Int) (a_4 : Int) (a_5 : Bool) (a_6 : Int) (a_7 : Fault) (a_8 : List Block) : Option (Int × Int × (List Block)) :=
  if a_7.Kind = 1 then
    callK (p_spec_l08Flip a_0 a_1 a_2 a_3 a_4 a_5 a_6 a_7.Block a_7.Page a_7.Bit a_8) fun y2 =>
    some (a_3, a_4, y2)
  else
    if a_7.Kind = 2 then
      grd (a_2 < 4611686018427387904) <|
      forI a_2 (fun (i9 : Nat) (v10 : List Block) (nx11 : (List Block) → Option _) =>
        if ¬ (i9 : Int) = a_7.Page then
          callK (p_spec_l08Flip a_0 a_1 a_2 a_3 a_4 a_5 a_6 a_7.Block (i9 : Int) a_7.Bit v10) fun y13 =>
          nx11 y13
        else
          nx11 v10) a_8 (fun (v10 : List Block) =>
        some (a_3, a_4, v10))
    else
      if a_7.Kind = 3 then
        grd (a_2 < 4611686018427387904) <|
        forI a_2 (fun (i19 : Nat) (v20 : List Block) (nx21 : (List Block) → Option _) =>
          callK (p_spec_l08Flip a_0 a_1 a_2 a_3 a_4 a_5 a_6 a_7.Block (i19 : Int) (Int.tmod (IntKind.i64.wrap (a_7.Bit + (IntKind.i64.wrap (8 * (i19 : Int))))) 728) v20) fun y22 =>
          nx21 y22) a_8 (fun (v20 : List Block) =>
          some (a_3, a_4, v20))
      else
        if a_7.Kind = 4 then
          getK a_8 a_7.Block fun x24 =>
          some (a_3, a_4, (a_8.set (Int.toNat a_7.Block) (⟨x24.Erases, x24.Next, true, x24.Pages⟩ : Block)))
        else
          if a_7.Kind = 5 then
            some (a_7.Page, a_7.Bit, a_8)
          else
            some (a_3, a_4, a_8)

set_option maxHeartbeats 4000000 in
theorem L_spec_l08Apply (a_0 : Int) (a_1 : Int) (a_2 : Int) (a_3 : Int) (a_4 : Int) (a_5 : Bool) (a_6 : Int) (a_7 : Fault) (a_8 : List Block) {r : (Int × Int × (List Block))} (h : p_spec_l08Apply a_0 a_1 a_2 a_3 a_4 a_5 a_6 a_7 a_8 = some r) : callL E 114 [.agg [IN a_0, IN a_1, IN a_2, .nsl 0, IN a_3, IN a_4, BO a_5, IN a_6], .agg [IN a_7.Kind, IN a_7.Block, IN a_7.Page, IN a_7.Bit]] ([some (.nst ⟨91, 4, 3, 9, 1⟩ a_8.length (a_8.map rBlock))] : Fo) = some (.agg [IN a_0, IN a_1, IN a_2, .nsl 0, IN r.1, IN r.2.1, BO a_5, IN a_6], ([some (.nst ⟨91, 4, 3, 9, 1⟩ r.2.2.length (r.2.2.map rBlock))] : Fo)) := by
  unfold p_spec_l08Apply at h
  refine callW (fu := Try.f114) rfl rfl rfl NN ?_
  intro lp cl hlp hcl
  conv => lhs; whnf
  cases hb1 : (a_7.Kind == 1)
  · replace h := ifF h (beqF hb1); conv => lhs; whnf
    cases hb3 : (a_7.Kind == 2)
    · replace h := ifF h (beqF hb3); conv => lhs; whnf
      cases hb14 : (a_7.Kind == 3)
      · replace h := ifF h (beqF hb14); conv => lhs; whnf
        cases hb23 : (a_7.Kind == 4)
        · replace h := ifF h (beqF hb23); conv => lhs; whnf
          cases hb25 : (a_7.Kind == 5)
          · replace h := ifF h (beqF hb25); conv => lhs; whnf
            obtain rfl := Option.some.inj h; show _ = _; kernel_rfl

          · replace h := ifT h (beqT hb25); conv => lhs; whnf
            obtain rfl := Option.some.inj h; show _ = _; kernel_rfl

        · replace h := ifT h (beqT hb23); conv => lhs; whnf
          obtain ⟨x24, hq_x24, hx_x24', h⟩ := getK_inv h
          have hx_x24 := get_of (r := rBlock) hx_x24'
          try (rw [decide_eq_true hq_x24]; conv => lhs; whnf)
          rw [hx_x24]
          conv => lhs; whnf
          rw [hx_x24]
          conv => lhs; whnf
          first | (rw [map_set_of (r := rBlock) (l := a_8) (x := (⟨x24.Erases, x24.Next, true, x24.Pages⟩ : Block)) ?hh]; case hh => exact rfl) | skip
          obtain rfl := Option.some.inj h
          try (conv => rhs; simp only [List.length_set, List.length_append, List.length_cons, List.length_nil, Nat.zero_add])
          show _ = _; kernel_rfl
      · replace h := ifT h (beqT hb14); conv => lhs; whnf
        obtain ⟨hl_i19, h⟩ := grd_inv h
        refine loop_forI hlp (n := a_2) hl_i19 (fun (i19 : Nat) (v20 : List Block) => ([.dead, .dead, .bp 1 0, .bp 2 0, .bp 3 0, .dead, IN (i19 : Int)] ++ List.replicate 69 .dead : List V)) (fun (i19 : Nat) (v20 : List Block) => ([some (.nst ⟨91, 4, 3, 9, 1⟩ v20.length (v20.map rBlock)), some (.box [IN a_0, IN a_1, IN a_2, .nsl 0, IN a_3, IN a_4, BO a_5, IN a_6]), some (.box [IN a_7.Kind, IN a_7.Block, IN a_7.Page, IN a_7.Bit]), some (.box [IN 0, IN 0, IN 0, .d (.arr (([] : List Block).map rBlock)), IN 0, IN 0, BO false, IN 0])] : Fo)) (fun (r : (Int × Int × (List Block))) => ((.agg [IN a_0, IN a_1, IN a_2, .nsl 0, IN r.1, IN r.2.1, BO a_5, IN a_6] : V), ([some (.nst ⟨91, 4, 3, 9, 1⟩ r.2.2.length (r.2.2.map rBlock))] : Fo))) ?_ ?_ a_8 _ (fun kk => by kernel_rfl) h
        · clear h
          rintro next_nx21 nx21 i19 hi_i19 hnx21 v20 r h
          try dsimp only at h
          have hn_i19 : i19 < 4611686018427387904 := by omega
          have hd_i19 : (decide ((i19 : Int) < a_2)) = true := decide_eq_true (by omega)
          conv => lhs; whnf
          rw [hd_i19]
          conv => lhs; whnf
          try (rw [rem_run _ _ _ 728 (by decide)]; conv => lhs; whnf)
          conv => lhs; whnf
          obtain ⟨y22, h_y22, h⟩ := callK_inv h
          rw [cl_eq hcl (L_spec_l08Flip a_0 a_1 a_2 a_3 a_4 a_5 a_6 a_7.Block (i19 : Int) (Int.tmod (IntKind.i64.wrap (a_7.Bit + (IntKind.i64.wrap (8 * (i19 : Int))))) 728) v20 h_y22)]
          rotate_left
          · show _ = _; kernel_rfl
          · show _ = _; kernel_rfl
          conv => lhs; whnf
          rw [wrap_nat i19 (by have := hn_i19; omega)]
          exact hnx21 _ _ _ _ (fun kk => by kernel_rfl) h
        · clear h
          rintro next_nx21 v20 r h
          try dsimp only at h
          have hd_i19 : (decide (((Int.toNat a_2) : Int) < a_2)) = false := decide_eq_false (by omega)
          conv => lhs; whnf
          rw [hd_i19]
          conv => lhs; whnf
          obtain rfl := Option.some.inj h; show _ = _; kernel_rfl

    · replace h := ifT h (beqT hb3); conv => lhs; whnf
      obtain ⟨hl_i9, h⟩ := grd_inv h
      refine loop_forI hlp (n := a_2) hl_i9 (fun (i9 : Nat) (v10 : List Block) => ([.dead, .dead, .bp 1 0, .bp 2 0, .bp 3 0, IN (i9 : Int)] ++ List.replicate 70 .dead : List V)) (fun (i9 : Nat) (v10 : List Block) => ([some (.nst ⟨91, 4, 3, 9, 1⟩ v10.length (v10.map rBlock)), some (.box [IN a_0, IN a_1, IN a_2, .nsl 0, IN a_3, IN a_4, BO a_5, IN a_6]), some (.box [IN a_7.Kind, IN a_7.Block, IN a_7.Page, IN a_7.Bit]), some (.box [IN 0, IN 0, IN 0, .d (.arr (([] : List Block).map rBlock)), IN 0, IN 0, BO false, IN 0])] : Fo)) (fun (r : (Int × Int × (List Block))) => ((.agg [IN a_0, IN a_1, IN a_2, .nsl 0, IN r.1, IN r.2.1, BO a_5, IN a_6] : V), ([some (.nst ⟨91, 4, 3, 9, 1⟩ r.2.2.length (r.2.2.map rBlock))] : Fo))) ?_ ?_ a_8 _ (fun kk => by kernel_rfl) h
      · clear h
        rintro next_nx11 nx11 i9 hi_i9 hnx11 v10 r h
        try dsimp only at h
        have hn_i9 : i9 < 4611686018427387904 := by omega
        have hd_i9 : (decide ((i9 : Int) < a_2)) = true := decide_eq_true (by omega)
        conv => lhs; whnf
        rw [hd_i9]
        conv => lhs; whnf
        cases hb12 : ((i9 : Int) != a_7.Page)
        · replace h := ifF h ((fun h => not_not_intro (bneF h)) hb12); conv => lhs; whnf
          rw [wrap_nat i9 (by have := hn_i9; omega)]
          exact hnx11 _ _ _ _ (fun kk => by kernel_rfl) h
        · replace h := ifT h (bneT hb12); conv => lhs; whnf
          obtain ⟨y13, h_y13, h⟩ := callK_inv h
          rw [cl_eq hcl (L_spec_l08Flip a_0 a_1 a_2 a_3 a_4 a_5 a_6 a_7.Block (i9 : Int) a_7.Bit v10 h_y13)]
          rotate_left
          · show _ = _; kernel_rfl
          · show _ = _; kernel_rfl
          conv => lhs; whnf
          rw [wrap_nat i9 (by have := hn_i9; omega)]
          exact hnx11 _ _ _ _ (fun kk => by kernel_rfl) h
      · clear h
        rintro next_nx11 v10 r h
        try dsimp only at h
        have hd_i9 : (decide (((Int.toNat a_2) : Int) < a_2)) = false := decide_eq_false (by omega)
        conv => lhs; whnf
        rw [hd_i9]
        conv => lhs; whnf
        obtain rfl := Option.some.inj h; show _ = _; kernel_rfl

  · replace h := ifT h (beqT hb1); conv => lhs; whnf
    obtain ⟨y2, h_y2, h⟩ := callK_inv h
    rw [cl_eq hcl (L_spec_l08Flip a_0 a_1 a_2 a_3 a_4 a_5 a_6 a_7.Block a_7.Page a_7.Bit a_8 h_y2)]
    rotate_left
    · show _ = _; kernel_rfl
    · show _ = _; kernel_rfl
    conv => lhs; whnf
    obtain rfl := Option.some.inj h; show _ = _; kernel_rfl


noncomputable def p_spec_ApplyFaults (a_0 : Int) (a_1 : Int) (a_2 : Int) (a_3 : Int) (a_4 : Int) (a_5 : Bool) (a_6 : Int) (a_7 : List Block) (a_8 : List Fault) : Option (Flash × Int) :=
  callK (p_spec_ValidFlash (⟨⟨a_0, a_1, a_2⟩, a_7, a_3, a_4, a_5, a_6⟩ : Flash)) fun y1 =>
  if y1 = true then
    callK (p_spec_l08Script (⟨a_0, a_1, a_2⟩ : Geometry) a_8) fun y3 =>
    if y3 = true then
      if a_5 = true then
        callK (p_spec_l08Cuts a_8) fun y6 =>
        if y6 = true then
          some ((⟨⟨0, 0, 0⟩, ([] : List Block), 0, 0, false, 0⟩ : Flash), 8)
        else
          callK (p_spec_l15Own (⟨⟨a_0, a_1, a_2⟩, a_7, a_3, a_4, true, a_6⟩ : Flash)) fun y8 =>
          grd (a_8.length < 4611686018427387904) <|
          forK a_8 (fun (i21 : Nat) x31 ((v22, v23, v24, v25, v26, v27, v28, v29) : (Int × Int × Int × Int × Int × Bool × Int × (List Block))) (nx30 : (Int × Int × Int × Int × Int × Bool × Int × (List Block)) → Option _) =>
            callK (p_spec_l08Apply v22 v23 v24 v25 v26 v27 v28 x31 v29) fun y32 =>
            nx30 (v22, v23, v24, y32.1, y32.2.1, v27, v28, y32.2.2)) ((⟨⟨a_0, a_1, a_2⟩, a_7, a_3, a_4, true, a_6⟩ : Flash).Geo.Dies, (⟨⟨a_0, a_1, a_2⟩, a_7, a_3, a_4, true, a_6⟩ : Flash).Geo.Blocks, (⟨⟨a_0, a_1, a_2⟩, a_7, a_3, a_4, true, a_6⟩ : Flash).Geo.Pages, (⟨⟨a_0, a_1, a_2⟩, a_7, a_3, a_4, true, a_6⟩ : Flash).Fuse, (⟨⟨a_0, a_1, a_2⟩, a_7, a_3, a_4, true, a_6⟩ : Flash).Keep, (⟨⟨a_0, a_1, a_2⟩, a_7, a_3, a_4, true, a_6⟩ : Flash).Off, (⟨⟨a_0, a_1, a_2⟩, a_7, a_3, a_4, true, a_6⟩ : Flash).Ops, y8) (fun ((v22, v23, v24, v25, v26, v27, v28, v29) : (Int × Int × Int × Int × Int × Bool × Int × (List Block))) =>
            some ((⟨⟨v22, v23, v24⟩, v29, v25, v26, v27, v28⟩ : Flash), 0))
      else
        callK (p_spec_l15Own (⟨⟨a_0, a_1, a_2⟩, a_7, a_3, a_4, false, a_6⟩ : Flash)) fun y33 =>
        grd (a_8.length < 4611686018427387904) <|
        forK a_8 (fun (i46 : Nat) x56 ((v47, v48, v49, v50, v51, v52, v53, v54) : (Int × Int × Int × Int × Int × Bool × Int × (List Block))) (nx55 : (Int × Int × Int × Int × Int × Bool × Int × (List Block)) → Option _) =>
          callK (p_spec_l08Apply v47 v48 v49 v50 v51 v52 v53 x56 v54) fun y57 =>
          nx55 (v47, v48, v49, y57.1, y57.2.1, v52, v53, y57.2.2)) ((⟨⟨a_0, a_1, a_2⟩, a_7, a_3, a_4, false, a_6⟩ : Flash).Geo.Dies, (⟨⟨a_0, a_1, a_2⟩, a_7, a_3, a_4, false, a_6⟩ : Flash).Geo.Blocks, (⟨⟨a_0, a_1, a_2⟩, a_7, a_3, a_4, false, a_6⟩ : Flash).Geo.Pages, (⟨⟨a_0, a_1, a_2⟩, a_7, a_3, a_4, false, a_6⟩ : Flash).Fuse, (⟨⟨a_0, a_1, a_2⟩, a_7, a_3, a_4, false, a_6⟩ : Flash).Keep, (⟨⟨a_0, a_1, a_2⟩, a_7, a_3, a_4, false, a_6⟩ : Flash).Off, (⟨⟨a_0, a_1, a_2⟩, a_7, a_3, a_4, false, a_6⟩ : Flash).Ops, y33) (fun ((v47, v48, v49, v50, v51, v52, v53, v54) : (Int × Int × Int × Int × Int × Bool × Int × (List Block))) =>
          some ((⟨⟨v47, v48, v49⟩, v54, v50, v51, v52, v53⟩ : Flash), 0))
    else
      some ((⟨⟨0, 0, 0⟩, ([] : List Block), 0, 0, false, 0⟩ : Flash), 1)
  else
    some ((⟨⟨0, 0, 0⟩, ([] : List Block), 0, 0, false, 0⟩ : Flash), 1)

set_option maxHeartbeats 4000000 in
theorem L_spec_ApplyFaults (a_0 : Int) (a_1 : Int) (a_2 : Int) (a_3 : Int) (a_4 : Int) (a_5 : Bool) (a_6 : Int) (a_7 : List Block) (a_8 : List Fault) {r : (Flash × Int)} (h : p_spec_ApplyFaults a_0 a_1 a_2 a_3 a_4 a_5 a_6 a_7 a_8 = some r) : callL E 36 [.agg [IN a_0, IN a_1, IN a_2, .nsl 0, IN a_3, IN a_4, BO a_5, IN a_6], .sl 1] ([some (.nst ⟨91, 4, 3, 9, 1⟩ a_7.length (a_7.map rBlock)), some (.arr 54 4 (a_8.map rFault))] : Fo) = some (.tup [.agg [IN r.1.Geo.Dies, IN r.1.Geo.Blocks, IN r.1.Geo.Pages, .d (.arr (r.1.Blocks.map rBlock)), IN r.1.Fuse, IN r.1.Keep, BO r.1.Off, IN r.1.Ops], IN r.2], ([some (.nst ⟨91, 4, 3, 9, 1⟩ a_7.length (a_7.map rBlock)), some (.arr 54 4 (a_8.map rFault))] : Fo)) := by
  unfold p_spec_ApplyFaults at h
  refine callW (fu := Try.f36) rfl rfl rfl NN ?_
  intro lp cl hlp hcl
  conv => lhs; whnf
  obtain ⟨y1, h_y1, h⟩ := callK_inv h
  rw [cl_eq hcl (L_spec_ValidFlash (⟨⟨a_0, a_1, a_2⟩, a_7, a_3, a_4, a_5, a_6⟩ : Flash) h_y1)]
  rotate_left
  · show _ = _; kernel_rfl
  · show _ = _; kernel_rfl
  conv => lhs; whnf
  cases hb2 : y1
  · replace h := ifF h (booF hb2); conv => lhs; whnf
    try (rw [hb2]; conv => lhs; whnf)
    try (rw [hb2]; conv => lhs; whnf)
    try (rw [hb2]; conv => lhs; whnf)
    try (rw [hb2]; conv => lhs; whnf)
    try (rw [hb2]; conv => lhs; whnf)
    obtain rfl := Option.some.inj h; show _ = _; kernel_rfl

  · replace h := ifT h hb2; conv => lhs; whnf
    try (rw [hb2]; conv => lhs; whnf)
    try (rw [hb2]; conv => lhs; whnf)
    try (rw [hb2]; conv => lhs; whnf)
    obtain ⟨y3, h_y3, h⟩ := callK_inv h
    rw [cl_eq hcl (L_spec_l08Script (⟨a_0, a_1, a_2⟩ : Geometry) a_8 h_y3)]
    rotate_left
    · show _ = _; kernel_rfl
    · show _ = _; kernel_rfl
    conv => lhs; whnf
    try (rw [hb2]; conv => lhs; whnf)
    try (rw [hb2]; conv => lhs; whnf)
    cases hb4 : y3
    · replace h := ifF h (booF hb4); conv => lhs; whnf
      obtain rfl := Option.some.inj h; show _ = _; kernel_rfl

    · replace h := ifT h hb4
      try rw [hb4] at h
      conv => lhs; whnf
      cases hb5 : a_5
      · replace h := ifF h (booF hb5); conv => lhs; whnf
        try (rw [hb5]; conv => lhs; whnf)
        try (rw [hb5]; conv => lhs; whnf)
        obtain ⟨y33, h_y33, h⟩ := callK_inv h
        rw [cl_eq hcl (L_spec_l15Own (⟨⟨a_0, a_1, a_2⟩, a_7, a_3, a_4, false, a_6⟩ : Flash) h_y33)]
        rotate_left
        · show _ = _; kernel_rfl
        · show _ = _; kernel_rfl
        conv => lhs; whnf
        conv => lhs; whnf
        try (rw [litF_nst (f := rBlock) (g := rS) (p := fun x => x.Pages) (fun _ => rfl) (fun _ => rfl) (fun _ => rfl)]; conv => lhs; whnf)
        obtain ⟨hl_i46, h⟩ := grd_inv h
        refine loop_for hlp (l := a_8) hl_i46 (fun (i46 : Nat) ((v47, v48, v49, v50, v51, v52, v53, v54) : (Int × Int × Int × Int × Int × Bool × Int × (List Block))) => ([.dead, .sl 1, .dead, .dead, .bp 2 0, .dead, .bp 3 0, IN (i46 : Int)] ++ List.replicate 33 .dead : List V)) (fun (i46 : Nat) ((v47, v48, v49, v50, v51, v52, v53, v54) : (Int × Int × Int × Int × Int × Bool × Int × (List Block))) => ([some (.nst ⟨91, 4, 3, 9, 1⟩ a_7.length (a_7.map rBlock)), some (.arr 54 4 (a_8.map rFault)), some (.box [IN 0, IN 0, IN 0, .d (.arr (([] : List Block).map rBlock)), IN 0, IN 0, BO false, IN 0]), some (.box [IN v47, IN v48, IN v49, .nsl 4, IN v50, IN v51, BO v52, IN v53]), some (.nst ⟨91, 4, 3, 9, 1⟩ v54.length (v54.map rBlock))] : Fo)) (fun (r : (Flash × Int)) => ((.tup [.agg [IN r.1.Geo.Dies, IN r.1.Geo.Blocks, IN r.1.Geo.Pages, .d (.arr (r.1.Blocks.map rBlock)), IN r.1.Fuse, IN r.1.Keep, BO r.1.Off, IN r.1.Ops], IN r.2] : V), ([some (.nst ⟨91, 4, 3, 9, 1⟩ a_7.length (a_7.map rBlock)), some (.arr 54 4 (a_8.map rFault))] : Fo))) ?_ ?_ ((⟨⟨a_0, a_1, a_2⟩, a_7, a_3, a_4, false, a_6⟩ : Flash).Geo.Dies, (⟨⟨a_0, a_1, a_2⟩, a_7, a_3, a_4, false, a_6⟩ : Flash).Geo.Blocks, (⟨⟨a_0, a_1, a_2⟩, a_7, a_3, a_4, false, a_6⟩ : Flash).Geo.Pages, (⟨⟨a_0, a_1, a_2⟩, a_7, a_3, a_4, false, a_6⟩ : Flash).Fuse, (⟨⟨a_0, a_1, a_2⟩, a_7, a_3, a_4, false, a_6⟩ : Flash).Keep, (⟨⟨a_0, a_1, a_2⟩, a_7, a_3, a_4, false, a_6⟩ : Flash).Off, (⟨⟨a_0, a_1, a_2⟩, a_7, a_3, a_4, false, a_6⟩ : Flash).Ops, y33) _ (fun kk => by kernel_rfl) h
        · clear h
          rintro next_nx55 nx55 i46 hi_i46 hnx55 ⟨v47, v48, v49, v50, v51, v52, v53, v54⟩ r h
          try dsimp only at h
          have hn_i46 : i46 < 4611686018427387904 := by omega
          have hx_x56 := get_map rFault a_8 i46 hi_i46
          generalize a_8[i46] = x56 at h hx_x56
          have hd_i46 : (decide ((i46 : Int) < (a_8.length : Int))) = true := decide_eq_true (by omega)
          conv => lhs; whnf
          try rw [len_of (l := a_8) (r := rFault)]
          rw [hd_i46]
          conv => lhs; whnf
          try (rw [decide_eq_true hq_x56]; conv => lhs; whnf)
          rw [hx_x56]
          conv => lhs; whnf
          rw [hx_x56]
          conv => lhs; whnf
          obtain ⟨y57, h_y57, h⟩ := callK_inv h
          rw [cl_eq hcl (L_spec_l08Apply v47 v48 v49 v50 v51 v52 v53 x56 v54 h_y57)]
          rotate_left
          · show _ = _; kernel_rfl
          · show _ = _; kernel_rfl
          conv => lhs; whnf
          rw [wrap_nat i46 (by have := hn_i46; omega)]
          exact hnx55 _ _ _ _ (fun kk => by kernel_rfl) h
        · clear h
          rintro next_nx55 ⟨v47, v48, v49, v50, v51, v52, v53, v54⟩ r h
          try dsimp only at h
          have hd_i46 : (decide ((a_8.length : Int) < (a_8.length : Int))) = false := decide_eq_false (by omega)
          conv => lhs; whnf
          try rw [len_of (l := a_8) (r := rFault)]
          rw [hd_i46]
          conv => lhs; whnf
          obtain rfl := Option.some.inj h; show _ = _; kernel_rfl

      · replace h := ifT h hb5; conv => lhs; whnf
        try (rw [hb5]; conv => lhs; whnf)
        obtain ⟨y6, h_y6, h⟩ := callK_inv h
        rw [cl_eq hcl (L_spec_l08Cuts a_8 h_y6)]
        rotate_left
        · show _ = _; kernel_rfl
        · show _ = _; kernel_rfl
        conv => lhs; whnf
        try (rw [hb5]; conv => lhs; whnf)
        cases hb7 : y6
        · replace h := ifF h (booF hb7); conv => lhs; whnf
          obtain ⟨y8, h_y8, h⟩ := callK_inv h
          rw [cl_eq hcl (L_spec_l15Own (⟨⟨a_0, a_1, a_2⟩, a_7, a_3, a_4, true, a_6⟩ : Flash) h_y8)]
          rotate_left
          · show _ = _; kernel_rfl
          · show _ = _; kernel_rfl
          conv => lhs; whnf
          conv => lhs; whnf
          try (rw [litF_nst (f := rBlock) (g := rS) (p := fun x => x.Pages) (fun _ => rfl) (fun _ => rfl) (fun _ => rfl)]; conv => lhs; whnf)
          obtain ⟨hl_i21, h⟩ := grd_inv h
          refine loop_for hlp (l := a_8) hl_i21 (fun (i21 : Nat) ((v22, v23, v24, v25, v26, v27, v28, v29) : (Int × Int × Int × Int × Int × Bool × Int × (List Block))) => ([.dead, .sl 1, .dead, .dead, .bp 2 0, .dead, .bp 3 0, IN (i21 : Int)] ++ List.replicate 33 .dead : List V)) (fun (i21 : Nat) ((v22, v23, v24, v25, v26, v27, v28, v29) : (Int × Int × Int × Int × Int × Bool × Int × (List Block))) => ([some (.nst ⟨91, 4, 3, 9, 1⟩ a_7.length (a_7.map rBlock)), some (.arr 54 4 (a_8.map rFault)), some (.box [IN 0, IN 0, IN 0, .d (.arr (([] : List Block).map rBlock)), IN 0, IN 0, BO false, IN 0]), some (.box [IN v22, IN v23, IN v24, .nsl 4, IN v25, IN v26, BO v27, IN v28]), some (.nst ⟨91, 4, 3, 9, 1⟩ v29.length (v29.map rBlock))] : Fo)) (fun (r : (Flash × Int)) => ((.tup [.agg [IN r.1.Geo.Dies, IN r.1.Geo.Blocks, IN r.1.Geo.Pages, .d (.arr (r.1.Blocks.map rBlock)), IN r.1.Fuse, IN r.1.Keep, BO r.1.Off, IN r.1.Ops], IN r.2] : V), ([some (.nst ⟨91, 4, 3, 9, 1⟩ a_7.length (a_7.map rBlock)), some (.arr 54 4 (a_8.map rFault))] : Fo))) ?_ ?_ ((⟨⟨a_0, a_1, a_2⟩, a_7, a_3, a_4, true, a_6⟩ : Flash).Geo.Dies, (⟨⟨a_0, a_1, a_2⟩, a_7, a_3, a_4, true, a_6⟩ : Flash).Geo.Blocks, (⟨⟨a_0, a_1, a_2⟩, a_7, a_3, a_4, true, a_6⟩ : Flash).Geo.Pages, (⟨⟨a_0, a_1, a_2⟩, a_7, a_3, a_4, true, a_6⟩ : Flash).Fuse, (⟨⟨a_0, a_1, a_2⟩, a_7, a_3, a_4, true, a_6⟩ : Flash).Keep, (⟨⟨a_0, a_1, a_2⟩, a_7, a_3, a_4, true, a_6⟩ : Flash).Off, (⟨⟨a_0, a_1, a_2⟩, a_7, a_3, a_4, true, a_6⟩ : Flash).Ops, y8) _ (fun kk => by kernel_rfl) h
          · clear h
            rintro next_nx30 nx30 i21 hi_i21 hnx30 ⟨v22, v23, v24, v25, v26, v27, v28, v29⟩ r h
            try dsimp only at h
            have hn_i21 : i21 < 4611686018427387904 := by omega
            have hx_x31 := get_map rFault a_8 i21 hi_i21
            generalize a_8[i21] = x31 at h hx_x31
            have hd_i21 : (decide ((i21 : Int) < (a_8.length : Int))) = true := decide_eq_true (by omega)
            conv => lhs; whnf
            try rw [len_of (l := a_8) (r := rFault)]
            rw [hd_i21]
            conv => lhs; whnf
            try (rw [decide_eq_true hq_x31]; conv => lhs; whnf)
            rw [hx_x31]
            conv => lhs; whnf
            rw [hx_x31]
            conv => lhs; whnf
            obtain ⟨y32, h_y32, h⟩ := callK_inv h
            rw [cl_eq hcl (L_spec_l08Apply v22 v23 v24 v25 v26 v27 v28 x31 v29 h_y32)]
            rotate_left
            · show _ = _; kernel_rfl
            · show _ = _; kernel_rfl
            conv => lhs; whnf
            rw [wrap_nat i21 (by have := hn_i21; omega)]
            exact hnx30 _ _ _ _ (fun kk => by kernel_rfl) h
          · clear h
            rintro next_nx30 ⟨v22, v23, v24, v25, v26, v27, v28, v29⟩ r h
            try dsimp only at h
            have hd_i21 : (decide ((a_8.length : Int) < (a_8.length : Int))) = false := decide_eq_false (by omega)
            conv => lhs; whnf
            try rw [len_of (l := a_8) (r := rFault)]
            rw [hd_i21]
            conv => lhs; whnf
            obtain rfl := Option.some.inj h; show _ = _; kernel_rfl

        · replace h := ifT h hb7; conv => lhs; whnf
          obtain rfl := Option.some.inj h; show _ = _; kernel_rfl


noncomputable def p_impl_ValidGeometry (a_0 : Geometry) : Option Bool :=
  if (inR a_0.Dies 2 3) = true then
    if (inR a_0.Blocks 4 12) = true then
      if a_0.Pages = 8 then
        some true
      else
        some (a_0.Pages == 16)
    else
      some false
  else
    some false

set_option maxHeartbeats 4000000 in
theorem L_impl_ValidGeometry (a_0 : Geometry) {r : Bool} (h : p_impl_ValidGeometry a_0 = some r) : callL E 197 [.agg [IN a_0.Dies, IN a_0.Blocks, IN a_0.Pages]] ([] : Fo) = some (BO r, ([] : Fo)) := by
  unfold p_impl_ValidGeometry at h
  refine callW (fu := Try.f197) rfl rfl rfl NN ?_
  intro lp cl hlp hcl
  conv => lhs; whnf
  rw [cl_eq hcl (L_impl_within a_0.Dies 2 3 (pl_within a_0.Dies 2 3))]
  rotate_left
  · show _ = _; kernel_rfl
  · show _ = _; kernel_rfl
  conv => lhs; whnf
  cases hb1 : (inR a_0.Dies 2 3)
  · replace h := ifF h (booF hb1); conv => lhs; whnf
    try (rw [hb1]; conv => lhs; whnf)
    try (rw [hb1]; conv => lhs; whnf)
    try (rw [hb1]; conv => lhs; whnf)
    obtain rfl := Option.some.inj h; show _ = _; kernel_rfl

  · replace h := ifT h hb1; conv => lhs; whnf
    try (rw [hb1]; conv => lhs; whnf)
    try (rw [hb1]; conv => lhs; whnf)
    rw [cl_eq hcl (L_impl_within a_0.Blocks 4 12 (pl_within a_0.Blocks 4 12))]
    rotate_left
    · show _ = _; kernel_rfl
    · show _ = _; kernel_rfl
    conv => lhs; whnf
    try (rw [hb1]; conv => lhs; whnf)
    cases hb2 : (inR a_0.Blocks 4 12)
    · replace h := ifF h (booF hb2); conv => lhs; whnf
      try (rw [hb2]; conv => lhs; whnf)
      try (rw [hb2]; conv => lhs; whnf)
      try (rw [hb2]; conv => lhs; whnf)
      try (rw [hb2]; conv => lhs; whnf)
      try (rw [hb2]; conv => lhs; whnf)
      obtain rfl := Option.some.inj h; show _ = _; kernel_rfl

    · replace h := ifT h hb2; conv => lhs; whnf
      try (rw [hb2]; conv => lhs; whnf)
      try (rw [hb2]; conv => lhs; whnf)
      try (rw [hb2]; conv => lhs; whnf)
      cases hb3 : (a_0.Pages == 8)
      · replace h := ifF h (beqF hb3); conv => lhs; whnf
        try (rw [hb3]; conv => lhs; whnf)
        try (rw [hb3]; conv => lhs; whnf)
        try (rw [hb2]; conv => lhs; whnf)
        try (rw [hb3]; conv => lhs; whnf)
        try (rw [hb2]; conv => lhs; whnf)
        obtain rfl := Option.some.inj h; show _ = _; kernel_rfl

      · replace h := ifT h (beqT hb3); conv => lhs; whnf
        try (rw [hb3]; conv => lhs; whnf)
        try (rw [hb3]; conv => lhs; whnf)
        try (rw [hb2]; conv => lhs; whnf)
        try (rw [hb3]; conv => lhs; whnf)
        try (rw [hb2]; conv => lhs; whnf)
        obtain rfl := Option.some.inj h; show _ = _; kernel_rfl


noncomputable def p_impl_Geometry_all (a_0 : Geometry) : Option Int :=
  some (IntKind.i64.wrap (a_0.Dies * a_0.Blocks))

set_option maxHeartbeats 4000000 in
theorem L_impl_Geometry_all (a_0 : Geometry) {r : Int} (h : p_impl_Geometry_all a_0 = some r) : callL E 198 [.agg [IN a_0.Dies, IN a_0.Blocks, IN a_0.Pages]] ([] : Fo) = some (IN r, ([] : Fo)) := by
  unfold p_impl_Geometry_all at h
  refine callW (fu := Try.f198) rfl rfl rfl NN ?_
  intro lp cl hlp hcl
  conv => lhs; whnf
  obtain rfl := Option.some.inj h; show _ = _; kernel_rfl


noncomputable def p_impl_Geometry_blockOk (a_0 : Geometry) (a_1 : Block) : Option Bool :=
  if (inR a_1.Erases 0 1000) = true then
    if (inR a_1.Next 0 a_0.Pages) = true then
      if ¬ (a_1.Pages.length : Int) = a_0.Pages then
        some false
      else
        grd (a_1.Pages.length < 4611686018427387904) <|
        forK a_1.Pages (fun (i10 : Nat) x12 (_ : Unit) (nx11 : Unit → Option _) =>
          if (x12.toList == (⟨#[]⟩ : ByteArray).toList) = true then
            nx11 ()
          else
            if ¬ (ByteArray.size x12 : Int) = 91 then
              some false
            else
              if (i10 : Int) ≥ a_1.Next then
                some false
              else
                nx11 ()) () (fun (_ : Unit) =>
          some true)
    else
      some false
  else
    some false

set_option maxHeartbeats 4000000 in
theorem L_impl_Geometry_blockOk (a_0 : Geometry) (a_1 : Block) {r : Bool} (h : p_impl_Geometry_blockOk a_0 a_1 = some r) : callL E 201 [.agg [IN a_0.Dies, IN a_0.Blocks, IN a_0.Pages], .agg [IN a_1.Erases, IN a_1.Next, BO a_1.Bad, .d (.arr (a_1.Pages.map rS))]] ([] : Fo) = some (BO r, ([] : Fo)) := by
  unfold p_impl_Geometry_blockOk at h
  refine callW (fu := Try.f201) rfl rfl rfl NN ?_
  intro lp cl hlp hcl
  conv => lhs; whnf
  rw [cl_eq hcl (L_impl_within a_1.Erases 0 1000 (pl_within a_1.Erases 0 1000))]
  rotate_left
  · show _ = _; kernel_rfl
  · show _ = _; kernel_rfl
  conv => lhs; whnf
  cases hb1 : (inR a_1.Erases 0 1000)
  · replace h := ifF h (booF hb1); conv => lhs; whnf
    try (rw [hb1]; conv => lhs; whnf)
    try (rw [hb1]; conv => lhs; whnf)
    try (rw [hb1]; conv => lhs; whnf)
    try (rw [hb1]; conv => lhs; whnf)
    try (rw [hb1]; conv => lhs; whnf)
    try (rw [hb1]; conv => lhs; whnf)
    obtain rfl := Option.some.inj h; show _ = _; kernel_rfl

  · replace h := ifT h hb1; conv => lhs; whnf
    try (rw [hb1]; conv => lhs; whnf)
    try (rw [hb1]; conv => lhs; whnf)
    try (rw [hb1]; conv => lhs; whnf)
    try (rw [hb1]; conv => lhs; whnf)
    rw [cl_eq hcl (L_impl_within a_1.Next 0 a_0.Pages (pl_within a_1.Next 0 a_0.Pages))]
    rotate_left
    · show _ = _; kernel_rfl
    · show _ = _; kernel_rfl
    conv => lhs; whnf
    try (rw [hb1]; conv => lhs; whnf)
    try (rw [hb1]; conv => lhs; whnf)
    cases hb2 : (inR a_1.Next 0 a_0.Pages)
    · replace h := ifF h (booF hb2); conv => lhs; whnf
      try (rw [hb2]; conv => lhs; whnf)
      try (rw [hb2]; conv => lhs; whnf)
      try (rw [hb2]; conv => lhs; whnf)
      try (rw [hb2]; conv => lhs; whnf)
      try (rw [hb2]; conv => lhs; whnf)
      try (rw [hb2]; conv => lhs; whnf)
      obtain rfl := Option.some.inj h; show _ = _; kernel_rfl

    · replace h := ifT h hb2; conv => lhs; whnf
      try (rw [hb2]; conv => lhs; whnf)
      try (rw [hb2]; conv => lhs; whnf)
      try rw [len_of (l := a_1.Pages) (r := rS)]
      try (rw [hb2]; conv => lhs; whnf)
      try (rw [hb2]; conv => lhs; whnf)
      try (rw [hb2]; conv => lhs; whnf)
      try (rw [hb2]; conv => lhs; whnf)
      cases hb3 : ((a_1.Pages.length : Int) != a_0.Pages)
      · replace h := ifF h ((fun h => not_not_intro (bneF h)) hb3); conv => lhs; whnf
        try rw [len_of (l := a_1.Pages) (r := rS)]
        obtain ⟨hl_i10, h⟩ := grd_inv h
        refine loop_for hlp (l := a_1.Pages) hl_i10 (fun (i10 : Nat) (_ : Unit) => ([.dead, .dead, .dead, .bp 0 0, .dead, .dead, .dead, .dead, .dead, .dead, .dead, .dead, .dead, .dead, .dead, .dead, .dead, .dead, .dead, .dead, .dead, .dead, .dead, .dead, .dead, .dead, .dead, .dead, .d (.arr (a_1.Pages.map rS)), IN (a_1.Pages.length : Int), IN (i10 : Int)] ++ List.replicate 18 .dead : List V)) (fun (i10 : Nat) (_ : Unit) => ([some (.box [IN a_1.Erases, IN a_1.Next, BO a_1.Bad, .d (.arr (a_1.Pages.map rS))])] : Fo)) (fun (r : Bool) => ((BO r : V), ([] : Fo))) ?_ ?_ () _ (fun kk => by kernel_rfl) h
        · clear h
          rintro next_nx11 nx11 i10 hi_i10 hnx11 ⟨⟩ r h
          try dsimp only at h
          have hn_i10 : i10 < 4611686018427387904 := by omega
          have hx_x12 := get_map rS a_1.Pages i10 hi_i10
          generalize a_1.Pages[i10] = x12 at h hx_x12
          have hd_i10 : (decide ((i10 : Int) < (a_1.Pages.length : Int))) = true := decide_eq_true (by omega)
          conv => lhs; whnf
          rw [hd_i10]
          conv => lhs; whnf
          try (rw [decide_eq_true hq_x12]; conv => lhs; whnf)
          rw [hx_x12]
          conv => lhs; whnf
          rw [hx_x12]
          conv => lhs; whnf
          cases hb13 : (x12.toList == (⟨#[]⟩ : ByteArray).toList)
          · replace h := ifF h (booF hb13); conv => lhs; whnf
            try (rw [hb13]; conv => lhs; whnf)
            try (rw [hb13]; conv => lhs; whnf)
            try (rw [hb13]; conv => lhs; whnf)
            cases hb14 : ((ByteArray.size x12 : Int) != 91)
            · replace h := ifF h ((fun h => not_not_intro (bneF h)) hb14); conv => lhs; whnf
              try (rw [hb14]; conv => lhs; whnf)
              try (rw [hb14]; conv => lhs; whnf)
              try (rw [hb14]; conv => lhs; whnf)
              try (rw [hb13]; conv => lhs; whnf)
              try (rw [hb14]; conv => lhs; whnf)
              try (rw [hb13]; conv => lhs; whnf)
              cases hb15 : (decide ((i10 : Int) ≥ a_1.Next))
              · replace h := ifF h (decF hb15); conv => lhs; whnf
                rw [wrap_nat i10 (by have := hn_i10; omega)]
                exact hnx11 _ _ _ _ (fun kk => by kernel_rfl) h
              · replace h := ifT h (decT hb15); conv => lhs; whnf
                obtain rfl := Option.some.inj h; show _ = _; kernel_rfl

            · replace h := ifT h (bneT hb14); conv => lhs; whnf
              try (rw [hb14]; conv => lhs; whnf)
              try (rw [hb14]; conv => lhs; whnf)
              try (rw [hb14]; conv => lhs; whnf)
              try (rw [hb13]; conv => lhs; whnf)
              try (rw [hb14]; conv => lhs; whnf)
              try (rw [hb13]; conv => lhs; whnf)
              obtain rfl := Option.some.inj h; show _ = _; kernel_rfl

          · replace h := ifT h hb13; conv => lhs; whnf
            try (rw [hb13]; conv => lhs; whnf)
            try (rw [hb13]; conv => lhs; whnf)
            try (rw [hb13]; conv => lhs; whnf)
            try (rw [hb13]; conv => lhs; whnf)
            try (rw [hb13]; conv => lhs; whnf)
            rw [wrap_nat i10 (by have := hn_i10; omega)]
            exact hnx11 _ _ _ _ (fun kk => by kernel_rfl) h
        · clear h
          rintro next_nx11 ⟨⟩ r h
          try dsimp only at h
          have hd_i10 : (decide ((a_1.Pages.length : Int) < (a_1.Pages.length : Int))) = false := decide_eq_false (by omega)
          conv => lhs; whnf
          rw [hd_i10]
          conv => lhs; whnf
          obtain rfl := Option.some.inj h; show _ = _; kernel_rfl

      · replace h := ifT h (bneT hb3); conv => lhs; whnf
        obtain rfl := Option.some.inj h; show _ = _; kernel_rfl


noncomputable def p_impl_ValidFlash_c1 (a_0 : Block) (a_1 : Flash) : Option Bool :=
  callK (p_impl_Geometry_blockOk a_1.Geo a_0) fun y1 =>
  some (!y1)

set_option maxHeartbeats 4000000 in
theorem L_impl_ValidFlash_c1 (a_0 : Block) (a_1 : Flash) {r : Bool} (h : p_impl_ValidFlash_c1 a_0 a_1 = some r) : callL E 200 [.agg [IN a_0.Erases, IN a_0.Next, BO a_0.Bad, .d (.arr (a_0.Pages.map rS))], .bp 0 0] ([some (.box [IN a_1.Geo.Dies, IN a_1.Geo.Blocks, IN a_1.Geo.Pages, .d (.arr (a_1.Blocks.map rBlock)), IN a_1.Fuse, IN a_1.Keep, BO a_1.Off, IN a_1.Ops])] : Fo) = some (BO r, ([some (.box [IN a_1.Geo.Dies, IN a_1.Geo.Blocks, IN a_1.Geo.Pages, .d (.arr (a_1.Blocks.map rBlock)), IN a_1.Fuse, IN a_1.Keep, BO a_1.Off, IN a_1.Ops])] : Fo)) := by
  unfold p_impl_ValidFlash_c1 at h
  refine callW (fu := Try.f200) rfl rfl rfl NN ?_
  intro lp cl hlp hcl
  conv => lhs; whnf
  obtain ⟨y1, h_y1, h⟩ := callK_inv h
  rw [cl_eq hcl (L_impl_Geometry_blockOk a_1.Geo a_0 h_y1)]
  rotate_left
  · show _ = _; kernel_rfl
  · show _ = _; kernel_rfl
  conv => lhs; whnf
  obtain rfl := Option.some.inj h; show _ = _; kernel_rfl


noncomputable def p_slices_IndexFunc_impl_ValidFlash_c1 (a_0 : List Block) (a_1 : Flash) : Option Int :=
  grd (a_0.length < 4611686018427387904) <|
  forK a_0 (fun (i6 : Nat) x8 (_ : Unit) (nx7 : Unit → Option _) =>
    callK (p_impl_ValidFlash_c1 x8 a_1) fun y9 =>
    if y9 = true then
      some (i6 : Int)
    else
      nx7 ()) () (fun (_ : Unit) =>
    some (-1))

set_option maxHeartbeats 4000000 in
theorem L_slices_IndexFunc_impl_ValidFlash_c1 (a_0 : List Block) (a_1 : Flash) {r : Int} (h : p_slices_IndexFunc_impl_ValidFlash_c1 a_0 a_1 = some r) : callL E 276 [.d (.arr (a_0.map rBlock)), .clo 200 [.bp 0 0]] ([some (.box [IN a_1.Geo.Dies, IN a_1.Geo.Blocks, IN a_1.Geo.Pages, .d (.arr (a_1.Blocks.map rBlock)), IN a_1.Fuse, IN a_1.Keep, BO a_1.Off, IN a_1.Ops])] : Fo) = some (IN r, ([some (.box [IN a_1.Geo.Dies, IN a_1.Geo.Blocks, IN a_1.Geo.Pages, .d (.arr (a_1.Blocks.map rBlock)), IN a_1.Fuse, IN a_1.Keep, BO a_1.Off, IN a_1.Ops])] : Fo)) := by
  unfold p_slices_IndexFunc_impl_ValidFlash_c1 at h
  refine callW (fu := Try.f276) rfl rfl rfl NN ?_
  intro lp cl hlp hcl
  conv => lhs; whnf
  try rw [len_of (l := a_0) (r := rBlock)]
  obtain ⟨hl_i6, h⟩ := grd_inv h
  refine loop_for hlp (l := a_0) hl_i6 (fun (i6 : Nat) (_ : Unit) => ([.d (.arr (a_0.map rBlock)), .clo 200 [.bp 0 0], .dead, .dead, .dead, .dead, .dead, IN (a_0.length : Int), IN (i6 : Int)] ++ List.replicate 10 .dead : List V)) (fun (i6 : Nat) (_ : Unit) => ([some (.box [IN a_1.Geo.Dies, IN a_1.Geo.Blocks, IN a_1.Geo.Pages, .d (.arr (a_1.Blocks.map rBlock)), IN a_1.Fuse, IN a_1.Keep, BO a_1.Off, IN a_1.Ops])] : Fo)) (fun (r : Int) => ((IN r : V), ([some (.box [IN a_1.Geo.Dies, IN a_1.Geo.Blocks, IN a_1.Geo.Pages, .d (.arr (a_1.Blocks.map rBlock)), IN a_1.Fuse, IN a_1.Keep, BO a_1.Off, IN a_1.Ops])] : Fo))) ?_ ?_ () _ (fun kk => by kernel_rfl) h
  · clear h
    rintro next_nx7 nx7 i6 hi_i6 hnx7 ⟨⟩ r h
    try dsimp only at h
    have hn_i6 : i6 < 4611686018427387904 := by omega
    have hx_x8 := get_map rBlock a_0 i6 hi_i6
    generalize a_0[i6] = x8 at h hx_x8
    have hd_i6 : (decide ((i6 : Int) < (a_0.length : Int))) = true := decide_eq_true (by omega)
    conv => lhs; whnf
    rw [hd_i6]
    conv => lhs; whnf
    try (rw [decide_eq_true hq_x8]; conv => lhs; whnf)
    rw [hx_x8]
    conv => lhs; whnf
    rw [hx_x8]
    conv => lhs; whnf
    obtain ⟨y9, h_y9, h⟩ := callK_inv h
    rw [cl_eq hcl (L_impl_ValidFlash_c1 x8 a_1 h_y9)]
    rotate_left
    · show _ = _; kernel_rfl
    · show _ = _; kernel_rfl
    conv => lhs; whnf
    cases hb10 : y9
    · replace h := ifF h (booF hb10); conv => lhs; whnf
      rw [wrap_nat i6 (by have := hn_i6; omega)]
      exact hnx7 _ _ _ _ (fun kk => by kernel_rfl) h
    · replace h := ifT h hb10; conv => lhs; whnf
      obtain rfl := Option.some.inj h; show _ = _; kernel_rfl

  · clear h
    rintro next_nx7 ⟨⟩ r h
    try dsimp only at h
    have hd_i6 : (decide ((a_0.length : Int) < (a_0.length : Int))) = false := decide_eq_false (by omega)
    conv => lhs; whnf
    rw [hd_i6]
    conv => lhs; whnf
    obtain rfl := Option.some.inj h; show _ = _; kernel_rfl


noncomputable def p_slices_ContainsFunc_impl_ValidFlash_c1 (a_0 : List Block) (a_1 : Flash) : Option Bool :=
  callK (p_slices_IndexFunc_impl_ValidFlash_c1 a_0 a_1) fun y1 =>
  some (decide (y1 ≥ 0))

set_option maxHeartbeats 4000000 in
theorem L_slices_ContainsFunc_impl_ValidFlash_c1 (a_0 : List Block) (a_1 : Flash) {r : Bool} (h : p_slices_ContainsFunc_impl_ValidFlash_c1 a_0 a_1 = some r) : callL E 199 [.d (.arr (a_0.map rBlock)), .clo 200 [.bp 0 0]] ([some (.box [IN a_1.Geo.Dies, IN a_1.Geo.Blocks, IN a_1.Geo.Pages, .d (.arr (a_1.Blocks.map rBlock)), IN a_1.Fuse, IN a_1.Keep, BO a_1.Off, IN a_1.Ops])] : Fo) = some (BO r, ([some (.box [IN a_1.Geo.Dies, IN a_1.Geo.Blocks, IN a_1.Geo.Pages, .d (.arr (a_1.Blocks.map rBlock)), IN a_1.Fuse, IN a_1.Keep, BO a_1.Off, IN a_1.Ops])] : Fo)) := by
  unfold p_slices_ContainsFunc_impl_ValidFlash_c1 at h
  refine callW (fu := Try.f199) rfl rfl rfl NN ?_
  intro lp cl hlp hcl
  conv => lhs; whnf
  obtain ⟨y1, h_y1, h⟩ := callK_inv h
  rw [cl_eq hcl (L_slices_IndexFunc_impl_ValidFlash_c1 a_0 a_1 h_y1)]
  rotate_left
  · show _ = _; kernel_rfl
  · show _ = _; kernel_rfl
  conv => lhs; whnf
  obtain rfl := Option.some.inj h; show _ = _; kernel_rfl


noncomputable def p_impl_ValidFlash (a_0 : Flash) : Option Bool :=
  callK (p_impl_ValidGeometry a_0.Geo) fun y1 =>
  if y1 = true then
    callK (p_impl_Geometry_all a_0.Geo) fun y3 =>
    if ¬ (a_0.Blocks.length : Int) = y3 then
      some false
    else
      if (inR a_0.Fuse (-1) 1000000) = true then
        if (inR a_0.Keep 0 91) = true then
          if a_0.Ops < 0 then
            some false
          else
            callK (p_slices_ContainsFunc_impl_ValidFlash_c1 a_0.Blocks a_0) fun y8 =>
            some (!y8)
        else
          some false
      else
        some false
  else
    some false

set_option maxHeartbeats 4000000 in
theorem L_impl_ValidFlash (a_0 : Flash) {r : Bool} (h : p_impl_ValidFlash a_0 = some r) : callL E 115 [.agg [IN a_0.Geo.Dies, IN a_0.Geo.Blocks, IN a_0.Geo.Pages, .d (.arr (a_0.Blocks.map rBlock)), IN a_0.Fuse, IN a_0.Keep, BO a_0.Off, IN a_0.Ops]] ([] : Fo) = some (BO r, ([] : Fo)) := by
  unfold p_impl_ValidFlash at h
  refine callW (fu := Try.f115) rfl rfl rfl NN ?_
  intro lp cl hlp hcl
  conv => lhs; whnf
  obtain ⟨y1, h_y1, h⟩ := callK_inv h
  rw [cl_eq hcl (L_impl_ValidGeometry a_0.Geo h_y1)]
  rotate_left
  · show _ = _; kernel_rfl
  · show _ = _; kernel_rfl
  conv => lhs; whnf
  cases hb2 : y1
  · replace h := ifF h (booF hb2); conv => lhs; whnf
    try (rw [hb2]; conv => lhs; whnf)
    try (rw [hb2]; conv => lhs; whnf)
    try (rw [hb2]; conv => lhs; whnf)
    try (rw [hb2]; conv => lhs; whnf)
    try (rw [hb2]; conv => lhs; whnf)
    try (rw [hb2]; conv => lhs; whnf)
    try (rw [hb2]; conv => lhs; whnf)
    obtain rfl := Option.some.inj h; show _ = _; kernel_rfl

  · replace h := ifT h hb2; conv => lhs; whnf
    try (rw [hb2]; conv => lhs; whnf)
    try (rw [hb2]; conv => lhs; whnf)
    try rw [len_of (l := a_0.Blocks) (r := rBlock)]
    try (rw [hb2]; conv => lhs; whnf)
    try (rw [hb2]; conv => lhs; whnf)
    try (rw [hb2]; conv => lhs; whnf)
    obtain ⟨y3, h_y3, h⟩ := callK_inv h
    rw [cl_eq hcl (L_impl_Geometry_all a_0.Geo h_y3)]
    rotate_left
    · show _ = _; kernel_rfl
    · show _ = _; kernel_rfl
    conv => lhs; whnf
    try (rw [hb2]; conv => lhs; whnf)
    try (rw [hb2]; conv => lhs; whnf)
    cases hb4 : ((a_0.Blocks.length : Int) != y3)
    · replace h := ifF h ((fun h => not_not_intro (bneF h)) hb4); conv => lhs; whnf
      try (rw [hb4]; conv => lhs; whnf)
      try (rw [hb4]; conv => lhs; whnf)
      rw [cl_eq hcl (L_impl_within a_0.Fuse (-1) 1000000 (pl_within a_0.Fuse (-1) 1000000))]
      rotate_left
      · show _ = _; kernel_rfl
      · show _ = _; kernel_rfl
      conv => lhs; whnf
      try (rw [hb4]; conv => lhs; whnf)
      try (rw [hb4]; conv => lhs; whnf)
      cases hb5 : (inR a_0.Fuse (-1) 1000000)
      · replace h := ifF h (booF hb5); conv => lhs; whnf
        try (rw [hb5]; conv => lhs; whnf)
        try (rw [hb5]; conv => lhs; whnf)
        try (rw [hb5]; conv => lhs; whnf)
        try (rw [hb5]; conv => lhs; whnf)
        obtain rfl := Option.some.inj h; show _ = _; kernel_rfl

      · replace h := ifT h hb5; conv => lhs; whnf
        try (rw [hb5]; conv => lhs; whnf)
        try (rw [hb5]; conv => lhs; whnf)
        rw [cl_eq hcl (L_impl_within a_0.Keep 0 91 (pl_within a_0.Keep 0 91))]
        rotate_left
        · show _ = _; kernel_rfl
        · show _ = _; kernel_rfl
        conv => lhs; whnf
        try (rw [hb5]; conv => lhs; whnf)
        try (rw [hb5]; conv => lhs; whnf)
        cases hb6 : (inR a_0.Keep 0 91)
        · replace h := ifF h (booF hb6); conv => lhs; whnf
          try (rw [hb6]; conv => lhs; whnf)
          try (rw [hb6]; conv => lhs; whnf)
          try (rw [hb6]; conv => lhs; whnf)
          obtain rfl := Option.some.inj h; show _ = _; kernel_rfl

        · replace h := ifT h hb6; conv => lhs; whnf
          try (rw [hb6]; conv => lhs; whnf)
          try (rw [hb6]; conv => lhs; whnf)
          try (rw [hb6]; conv => lhs; whnf)
          cases hb7 : (decide (a_0.Ops < 0))
          · replace h := ifF h (decF hb7); conv => lhs; whnf
            obtain ⟨y8, h_y8, h⟩ := callK_inv h
            rw [cl_eq hcl (L_slices_ContainsFunc_impl_ValidFlash_c1 a_0.Blocks a_0 h_y8)]
            rotate_left
            · show _ = _; kernel_rfl
            · show _ = _; kernel_rfl
            conv => lhs; whnf
            obtain rfl := Option.some.inj h; show _ = _; kernel_rfl

          · replace h := ifT h (decT hb7); conv => lhs; whnf
            obtain rfl := Option.some.inj h; show _ = _; kernel_rfl

    · replace h := ifT h (bneT hb4); conv => lhs; whnf
      try (rw [hb4]; conv => lhs; whnf)
      try (rw [hb4]; conv => lhs; whnf)
      try (rw [hb4]; conv => lhs; whnf)
      try (rw [hb4]; conv => lhs; whnf)
      obtain rfl := Option.some.inj h; show _ = _; kernel_rfl


noncomputable def p_impl_faultOk (a_0 : Geometry) (a_1 : Fault) : Option Bool :=
  callK (p_impl_Geometry_all a_0) fun y1 =>
  if a_1.Kind = 1 then
    if (inR a_1.Block 0 (IntKind.i64.wrap (y1 - 1))) = true then
      if (inR a_1.Page 0 (IntKind.i64.wrap (a_0.Pages - 1))) = true then
        some (inR a_1.Bit 0 727)
      else
        some false
    else
      some false
  else
    if a_1.Kind = 2 then
      if (inR a_1.Block 0 (IntKind.i64.wrap (y1 - 1))) = true then
        if (inR a_1.Page 0 (IntKind.i64.wrap (a_0.Pages - 1))) = true then
          some (inR a_1.Bit 0 727)
        else
          some false
      else
        some false
    else
      if a_1.Kind = 3 then
        if (inR a_1.Block 0 (IntKind.i64.wrap (y1 - 1))) = true then
          if a_1.Page = 0 then
            some (inR a_1.Bit 0 727)
          else
            some false
        else
          some false
      else
        if a_1.Kind = 4 then
          if (inR a_1.Block 0 (IntKind.i64.wrap (y1 - 1))) = true then
            if a_1.Page = 0 then
              some (a_1.Bit == 0)
            else
              some false
          else
            some false
        else
          if a_1.Kind = 5 then
            if a_1.Block = 0 then
              if (inR a_1.Page 0 1000000) = true then
                some (inR a_1.Bit 0 91)
              else
                some false
            else
              some false
          else
            some false

set_option maxHeartbeats 4000000 in
theorem L_impl_faultOk (a_0 : Geometry) (a_1 : Fault) {r : Bool} (h : p_impl_faultOk a_0 a_1 = some r) : callL E 204 [.agg [IN a_0.Dies, IN a_0.Blocks, IN a_0.Pages], .agg [IN a_1.Kind, IN a_1.Block, IN a_1.Page, IN a_1.Bit]] ([] : Fo) = some (BO r, ([] : Fo)) := by
  unfold p_impl_faultOk at h
  refine callW (fu := Try.f204) rfl rfl rfl NN ?_
  intro lp cl hlp hcl
  conv => lhs; whnf
  obtain ⟨y1, h_y1, h⟩ := callK_inv h
  rw [cl_eq hcl (L_impl_Geometry_all a_0 h_y1)]
  rotate_left
  · show _ = _; kernel_rfl
  · show _ = _; kernel_rfl
  conv => lhs; whnf
  rw [cl_eq hcl (L_impl_within a_1.Block 0 (IntKind.i64.wrap (y1 - 1)) (pl_within a_1.Block 0 (IntKind.i64.wrap (y1 - 1))))]
  rotate_left
  · show _ = _; kernel_rfl
  · show _ = _; kernel_rfl
  conv => lhs; whnf
  rw [cl_eq hcl (L_impl_within a_1.Page 0 (IntKind.i64.wrap (a_0.Pages - 1)) (pl_within a_1.Page 0 (IntKind.i64.wrap (a_0.Pages - 1))))]
  rotate_left
  · show _ = _; kernel_rfl
  · show _ = _; kernel_rfl
  conv => lhs; whnf
  rw [cl_eq hcl (L_impl_within a_1.Bit 0 727 (pl_within a_1.Bit 0 727))]
  rotate_left
  · show _ = _; kernel_rfl
  · show _ = _; kernel_rfl
  conv => lhs; whnf
  cases hb2 : (a_1.Kind == 1)
  · replace h := ifF h (beqF hb2); conv => lhs; whnf
    cases hb5 : (a_1.Kind == 2)
    · replace h := ifF h (beqF hb5); conv => lhs; whnf
      cases hb8 : (a_1.Kind == 3)
      · replace h := ifF h (beqF hb8); conv => lhs; whnf
        cases hb11 : (a_1.Kind == 4)
        · replace h := ifF h (beqF hb11); conv => lhs; whnf
          cases hb14 : (a_1.Kind == 5)
          · replace h := ifF h (beqF hb14); conv => lhs; whnf
            obtain rfl := Option.some.inj h; show _ = _; kernel_rfl

          · replace h := ifT h (beqT hb14); conv => lhs; whnf
            cases hb15 : (a_1.Block == 0)
            · replace h := ifF h (beqF hb15); conv => lhs; whnf
              try (rw [hb15]; conv => lhs; whnf)
              try (rw [hb15]; conv => lhs; whnf)
              try (rw [hb15]; conv => lhs; whnf)
              obtain rfl := Option.some.inj h; show _ = _; kernel_rfl

            · replace h := ifT h (beqT hb15); conv => lhs; whnf
              try (rw [hb15]; conv => lhs; whnf)
              try (rw [hb15]; conv => lhs; whnf)
              rw [cl_eq hcl (L_impl_within a_1.Page 0 1000000 (pl_within a_1.Page 0 1000000))]
              rotate_left
              · show _ = _; kernel_rfl
              · show _ = _; kernel_rfl
              conv => lhs; whnf
              try (rw [hb15]; conv => lhs; whnf)
              cases hb16 : (inR a_1.Page 0 1000000)
              · replace h := ifF h (booF hb16); conv => lhs; whnf
                try (rw [hb16]; conv => lhs; whnf)
                try (rw [hb16]; conv => lhs; whnf)
                try (rw [hb16]; conv => lhs; whnf)
                obtain rfl := Option.some.inj h; show _ = _; kernel_rfl

              · replace h := ifT h hb16; conv => lhs; whnf
                try (rw [hb16]; conv => lhs; whnf)
                try (rw [hb16]; conv => lhs; whnf)
                rw [cl_eq hcl (L_impl_within a_1.Bit 0 91 (pl_within a_1.Bit 0 91))]
                rotate_left
                · show _ = _; kernel_rfl
                · show _ = _; kernel_rfl
                conv => lhs; whnf
                try (rw [hb16]; conv => lhs; whnf)
                obtain rfl := Option.some.inj h; show _ = _; kernel_rfl

        · replace h := ifT h (beqT hb11); conv => lhs; whnf
          cases hb12 : (inR a_1.Block 0 (IntKind.i64.wrap (y1 - 1)))
          · replace h := ifF h (booF hb12); conv => lhs; whnf
            try (rw [hb12]; conv => lhs; whnf)
            try (rw [hb12]; conv => lhs; whnf)
            try (rw [hb12]; conv => lhs; whnf)
            obtain rfl := Option.some.inj h; show _ = _; kernel_rfl

          · replace h := ifT h hb12; conv => lhs; whnf
            try (rw [hb12]; conv => lhs; whnf)
            try (rw [hb12]; conv => lhs; whnf)
            try (rw [hb12]; conv => lhs; whnf)
            cases hb13 : (a_1.Page == 0)
            · replace h := ifF h (beqF hb13); conv => lhs; whnf
              try (rw [hb13]; conv => lhs; whnf)
              try (rw [hb13]; conv => lhs; whnf)
              try (rw [hb13]; conv => lhs; whnf)
              obtain rfl := Option.some.inj h; show _ = _; kernel_rfl

            · replace h := ifT h (beqT hb13); conv => lhs; whnf
              try (rw [hb13]; conv => lhs; whnf)
              try (rw [hb13]; conv => lhs; whnf)
              try (rw [hb13]; conv => lhs; whnf)
              obtain rfl := Option.some.inj h; show _ = _; kernel_rfl

      · replace h := ifT h (beqT hb8); conv => lhs; whnf
        cases hb9 : (inR a_1.Block 0 (IntKind.i64.wrap (y1 - 1)))
        · replace h := ifF h (booF hb9); conv => lhs; whnf
          try (rw [hb9]; conv => lhs; whnf)
          try (rw [hb9]; conv => lhs; whnf)
          try (rw [hb9]; conv => lhs; whnf)
          obtain rfl := Option.some.inj h; show _ = _; kernel_rfl

        · replace h := ifT h hb9; conv => lhs; whnf
          try (rw [hb9]; conv => lhs; whnf)
          try (rw [hb9]; conv => lhs; whnf)
          try (rw [hb9]; conv => lhs; whnf)
          cases hb10 : (a_1.Page == 0)
          · replace h := ifF h (beqF hb10); conv => lhs; whnf
            try (rw [hb10]; conv => lhs; whnf)
            obtain rfl := Option.some.inj h; show _ = _; kernel_rfl

          · replace h := ifT h (beqT hb10); conv => lhs; whnf
            try (rw [hb10]; conv => lhs; whnf)
            obtain rfl := Option.some.inj h; show _ = _; kernel_rfl

    · replace h := ifT h (beqT hb5); conv => lhs; whnf
      cases hb6 : (inR a_1.Block 0 (IntKind.i64.wrap (y1 - 1)))
      · replace h := ifF h (booF hb6); conv => lhs; whnf
        try (rw [hb6]; conv => lhs; whnf)
        obtain rfl := Option.some.inj h; show _ = _; kernel_rfl

      · replace h := ifT h hb6; conv => lhs; whnf
        try (rw [hb6]; conv => lhs; whnf)
        cases hb7 : (inR a_1.Page 0 (IntKind.i64.wrap (a_0.Pages - 1)))
        · replace h := ifF h (booF hb7); conv => lhs; whnf
          try (rw [hb7]; conv => lhs; whnf)
          obtain rfl := Option.some.inj h; show _ = _; kernel_rfl

        · replace h := ifT h hb7; conv => lhs; whnf
          try (rw [hb7]; conv => lhs; whnf)
          obtain rfl := Option.some.inj h; show _ = _; kernel_rfl

  · replace h := ifT h (beqT hb2); conv => lhs; whnf
    try (rw [hb2]; conv => lhs; whnf)
    cases hb3 : (inR a_1.Block 0 (IntKind.i64.wrap (y1 - 1)))
    · replace h := ifF h (booF hb3); conv => lhs; whnf
      try (rw [hb3]; conv => lhs; whnf)
      obtain rfl := Option.some.inj h; show _ = _; kernel_rfl

    · replace h := ifT h hb3; conv => lhs; whnf
      try (rw [hb3]; conv => lhs; whnf)
      cases hb4 : (inR a_1.Page 0 (IntKind.i64.wrap (a_0.Pages - 1)))
      · replace h := ifF h (booF hb4); conv => lhs; whnf
        try (rw [hb4]; conv => lhs; whnf)
        obtain rfl := Option.some.inj h; show _ = _; kernel_rfl

      · replace h := ifT h hb4; conv => lhs; whnf
        try (rw [hb4]; conv => lhs; whnf)
        obtain rfl := Option.some.inj h; show _ = _; kernel_rfl


noncomputable def p_impl_scriptOk_c1 (a_0 : Fault) (a_1 : Geometry) : Option Bool :=
  callK (p_impl_faultOk a_1 a_0) fun y1 =>
  some (!y1)

set_option maxHeartbeats 4000000 in
theorem L_impl_scriptOk_c1 (a_0 : Fault) (a_1 : Geometry) {r : Bool} (h : p_impl_scriptOk_c1 a_0 a_1 = some r) : callL E 203 [.agg [IN a_0.Kind, IN a_0.Block, IN a_0.Page, IN a_0.Bit], .bp 0 0] ([some (.box [IN a_1.Dies, IN a_1.Blocks, IN a_1.Pages])] : Fo) = some (BO r, ([some (.box [IN a_1.Dies, IN a_1.Blocks, IN a_1.Pages])] : Fo)) := by
  unfold p_impl_scriptOk_c1 at h
  refine callW (fu := Try.f203) rfl rfl rfl NN ?_
  intro lp cl hlp hcl
  conv => lhs; whnf
  obtain ⟨y1, h_y1, h⟩ := callK_inv h
  rw [cl_eq hcl (L_impl_faultOk a_1 a_0 h_y1)]
  rotate_left
  · show _ = _; kernel_rfl
  · show _ = _; kernel_rfl
  conv => lhs; whnf
  obtain rfl := Option.some.inj h; show _ = _; kernel_rfl


noncomputable def p_slices_IndexFunc_impl_scriptOk_c1 (a_0 : List Fault) (a_1 : Geometry) : Option Int :=
  grd (a_0.length < 4611686018427387904) <|
  forK a_0 (fun (i6 : Nat) x8 (_ : Unit) (nx7 : Unit → Option _) =>
    callK (p_impl_scriptOk_c1 x8 a_1) fun y9 =>
    if y9 = true then
      some (i6 : Int)
    else
      nx7 ()) () (fun (_ : Unit) =>
    some (-1))

set_option maxHeartbeats 4000000 in
theorem L_slices_IndexFunc_impl_scriptOk_c1 (a_0 : List Fault) (a_1 : Geometry) {r : Int} (h : p_slices_IndexFunc_impl_scriptOk_c1 a_0 a_1 = some r) : callL E 277 [.d (.arr (a_0.map rFault)), .clo 203 [.bp 0 0]] ([some (.box [IN a_1.Dies, IN a_1.Blocks, IN a_1.Pages])] : Fo) = some (IN r, ([some (.box [IN a_1.Dies, IN a_1.Blocks, IN a_1.Pages])] : Fo)) := by
  unfold p_slices_IndexFunc_impl_scriptOk_c1 at h
  refine callW (fu := Try.f277) rfl rfl rfl NN ?_
  intro lp cl hlp hcl
  conv => lhs; whnf
  try rw [len_of (l := a_0) (r := rFault)]
  obtain ⟨hl_i6, h⟩ := grd_inv h
  refine loop_for hlp (l := a_0) hl_i6 (fun (i6 : Nat) (_ : Unit) => ([.d (.arr (a_0.map rFault)), .clo 203 [.bp 0 0], .dead, .dead, .dead, .dead, .dead, IN (a_0.length : Int), IN (i6 : Int)] ++ List.replicate 10 .dead : List V)) (fun (i6 : Nat) (_ : Unit) => ([some (.box [IN a_1.Dies, IN a_1.Blocks, IN a_1.Pages])] : Fo)) (fun (r : Int) => ((IN r : V), ([some (.box [IN a_1.Dies, IN a_1.Blocks, IN a_1.Pages])] : Fo))) ?_ ?_ () _ (fun kk => by kernel_rfl) h
  · clear h
    rintro next_nx7 nx7 i6 hi_i6 hnx7 ⟨⟩ r h
    try dsimp only at h
    have hn_i6 : i6 < 4611686018427387904 := by omega
    have hx_x8 := get_map rFault a_0 i6 hi_i6
    generalize a_0[i6] = x8 at h hx_x8
    have hd_i6 : (decide ((i6 : Int) < (a_0.length : Int))) = true := decide_eq_true (by omega)
    conv => lhs; whnf
    rw [hd_i6]
    conv => lhs; whnf
    try (rw [decide_eq_true hq_x8]; conv => lhs; whnf)
    rw [hx_x8]
    conv => lhs; whnf
    rw [hx_x8]
    conv => lhs; whnf
    obtain ⟨y9, h_y9, h⟩ := callK_inv h
    rw [cl_eq hcl (L_impl_scriptOk_c1 x8 a_1 h_y9)]
    rotate_left
    · show _ = _; kernel_rfl
    · show _ = _; kernel_rfl
    conv => lhs; whnf
    cases hb10 : y9
    · replace h := ifF h (booF hb10); conv => lhs; whnf
      rw [wrap_nat i6 (by have := hn_i6; omega)]
      exact hnx7 _ _ _ _ (fun kk => by kernel_rfl) h
    · replace h := ifT h hb10; conv => lhs; whnf
      obtain rfl := Option.some.inj h; show _ = _; kernel_rfl

  · clear h
    rintro next_nx7 ⟨⟩ r h
    try dsimp only at h
    have hd_i6 : (decide ((a_0.length : Int) < (a_0.length : Int))) = false := decide_eq_false (by omega)
    conv => lhs; whnf
    rw [hd_i6]
    conv => lhs; whnf
    obtain rfl := Option.some.inj h; show _ = _; kernel_rfl


noncomputable def p_slices_ContainsFunc_impl_scriptOk_c1 (a_0 : List Fault) (a_1 : Geometry) : Option Bool :=
  callK (p_slices_IndexFunc_impl_scriptOk_c1 a_0 a_1) fun y1 =>
  some (decide (y1 ≥ 0))

set_option maxHeartbeats 4000000 in
theorem L_slices_ContainsFunc_impl_scriptOk_c1 (a_0 : List Fault) (a_1 : Geometry) {r : Bool} (h : p_slices_ContainsFunc_impl_scriptOk_c1 a_0 a_1 = some r) : callL E 202 [.d (.arr (a_0.map rFault)), .clo 203 [.bp 0 0]] ([some (.box [IN a_1.Dies, IN a_1.Blocks, IN a_1.Pages])] : Fo) = some (BO r, ([some (.box [IN a_1.Dies, IN a_1.Blocks, IN a_1.Pages])] : Fo)) := by
  unfold p_slices_ContainsFunc_impl_scriptOk_c1 at h
  refine callW (fu := Try.f202) rfl rfl rfl NN ?_
  intro lp cl hlp hcl
  conv => lhs; whnf
  obtain ⟨y1, h_y1, h⟩ := callK_inv h
  rw [cl_eq hcl (L_slices_IndexFunc_impl_scriptOk_c1 a_0 a_1 h_y1)]
  rotate_left
  · show _ = _; kernel_rfl
  · show _ = _; kernel_rfl
  conv => lhs; whnf
  obtain rfl := Option.some.inj h; show _ = _; kernel_rfl


noncomputable def p_impl_scriptOk (a_0 : Geometry) (a_1 : List Fault) : Option Bool :=
  callK (p_impl_ValidGeometry a_0) fun y1 =>
  if y1 = true then
    if (a_1.length : Int) ≤ 40 then
      callK (p_slices_ContainsFunc_impl_scriptOk_c1 a_1 a_0) fun y4 =>
      some (!y4)
    else
      some false
  else
    some false

set_option maxHeartbeats 4000000 in
theorem L_impl_scriptOk (a_0 : Geometry) (a_1 : List Fault) {r : Bool} (h : p_impl_scriptOk a_0 a_1 = some r) : callL E 116 [.agg [IN a_0.Dies, IN a_0.Blocks, IN a_0.Pages], .d (.arr (a_1.map rFault))] ([] : Fo) = some (BO r, ([] : Fo)) := by
  unfold p_impl_scriptOk at h
  refine callW (fu := Try.f116) rfl rfl rfl NN ?_
  intro lp cl hlp hcl
  conv => lhs; whnf
  obtain ⟨y1, h_y1, h⟩ := callK_inv h
  rw [cl_eq hcl (L_impl_ValidGeometry a_0 h_y1)]
  rotate_left
  · show _ = _; kernel_rfl
  · show _ = _; kernel_rfl
  conv => lhs; whnf
  cases hb2 : y1
  · replace h := ifF h (booF hb2); conv => lhs; whnf
    try (rw [hb2]; conv => lhs; whnf)
    try (rw [hb2]; conv => lhs; whnf)
    try (rw [hb2]; conv => lhs; whnf)
    obtain rfl := Option.some.inj h; show _ = _; kernel_rfl

  · replace h := ifT h hb2; conv => lhs; whnf
    try (rw [hb2]; conv => lhs; whnf)
    try rw [len_of (l := a_1) (r := rFault)]
    try (rw [hb2]; conv => lhs; whnf)
    try (rw [hb2]; conv => lhs; whnf)
    cases hb3 : (decide ((a_1.length : Int) ≤ 40))
    · replace h := ifF h (decF hb3); conv => lhs; whnf
      try (rw [hb3]; conv => lhs; whnf)
      try (rw [hb3]; conv => lhs; whnf)
      try (rw [hb3]; conv => lhs; whnf)
      try (rw [hb3]; conv => lhs; whnf)
      obtain rfl := Option.some.inj h; show _ = _; kernel_rfl

    · replace h := ifT h (decT hb3); conv => lhs; whnf
      try (rw [hb3]; conv => lhs; whnf)
      try (rw [hb3]; conv => lhs; whnf)
      obtain ⟨y4, h_y4, h⟩ := callK_inv h
      rw [cl_eq hcl (L_slices_ContainsFunc_impl_scriptOk_c1 a_1 a_0 h_y4)]
      rotate_left
      · show _ = _; kernel_rfl
      · show _ = _; kernel_rfl
      conv => lhs; whnf
      try (rw [hb3]; conv => lhs; whnf)
      try (rw [hb3]; conv => lhs; whnf)
      obtain rfl := Option.some.inj h; show _ = _; kernel_rfl


noncomputable def p_impl_Flash_clone (a_0 : Flash) : Option (List Block) :=
  grd (appOk a_0.Blocks.length 48 = true) <|
  grd ((a_0.Blocks.length : Int) < 4611686018427387904) <|
  forI (a_0.Blocks.length : Int) (fun (i6 : Nat) (v7 : List Block) (nx8 : (List Block) → Option _) =>
    getK v7 (i6 : Int) fun x9 =>
    grd (appOk x9.Pages.length 16 = true) <|
    nx8 (v7.set (Int.toNat (i6 : Int)) x9)) a_0.Blocks (fun (v7 : List Block) =>
    grd ((Int.toNat (a_0.Blocks.length : Int)) = v7.length) <|
    some v7)

set_option maxHeartbeats 4000000 in
theorem L_impl_Flash_clone (a_0 : Flash) {r : (List Block)} (h : p_impl_Flash_clone a_0 = some r) : callL E 117 [.agg [IN a_0.Geo.Dies, IN a_0.Geo.Blocks, IN a_0.Geo.Pages, .d (.arr (a_0.Blocks.map rBlock)), IN a_0.Fuse, IN a_0.Keep, BO a_0.Off, IN a_0.Ops]] ([] : Fo) = some (.agg [IN a_0.Geo.Dies, IN a_0.Geo.Blocks, IN a_0.Geo.Pages, .nsl 0, IN a_0.Fuse, IN a_0.Keep, BO a_0.Off, IN a_0.Ops], ([some (.nst ⟨91, 4, 3, 9, 1⟩ r.length (r.map rBlock))] : Fo)) := by
  unfold p_impl_Flash_clone at h
  refine callW (fu := Try.f117) rfl rfl rfl NN ?_
  intro lp cl hlp hcl
  conv => lhs; whnf
  obtain ⟨hg11, h⟩ := grd_inv h
  rw [cl_eq hcl (f_cloneN (rows := a_0.Blocks.map rBlock) rfl (app_eq hg11 (List.length_map ..) rfl) (allLen_map rBlock _ rBlock_len _) rfl rfl rfl)]
  rotate_left
  · exact rfl
  · exact rfl
  conv => lhs; whnf
  try rw [len_of (l := a_0.Blocks) (r := rBlock)]
  obtain ⟨hl_i6, h⟩ := grd_inv h
  refine loop_forI hlp (n := (a_0.Blocks.length : Int)) hl_i6 (fun (i6 : Nat) (v7 : List Block) => ([.dead, .bp 0 0, .bp 1 0, .dead, .dead, .dead, .dead, .dead, .dead, .dead, IN (a_0.Blocks.length : Int), IN (i6 : Int)] ++ List.replicate 16 .dead : List V)) (fun (i6 : Nat) (v7 : List Block) => ([some (.box [IN a_0.Geo.Dies, IN a_0.Geo.Blocks, IN a_0.Geo.Pages, .nsl 2, IN a_0.Fuse, IN a_0.Keep, BO a_0.Off, IN a_0.Ops]), some (.box [IN 0, IN 0, IN 0, .d (.arr (([] : List Block).map rBlock)), IN 0, IN 0, BO false, IN 0]), some (.nst ⟨91, 4, 3, 9, 1⟩ i6 (v7.map rBlock))] : Fo)) (fun (r : (List Block)) => ((.agg [IN a_0.Geo.Dies, IN a_0.Geo.Blocks, IN a_0.Geo.Pages, .nsl 0, IN a_0.Fuse, IN a_0.Keep, BO a_0.Off, IN a_0.Ops] : V), ([some (.nst ⟨91, 4, 3, 9, 1⟩ r.length (r.map rBlock))] : Fo))) ?_ ?_ a_0.Blocks _ (fun kk => by kernel_rfl) h
  · clear h
    rintro next_nx8 nx8 i6 hi_i6 hnx8 v7 r h
    try dsimp only at h
    have hn_i6 : i6 < 4611686018427387904 := by omega
    have hd_i6 : (decide ((i6 : Int) < (a_0.Blocks.length : Int))) = true := decide_eq_true (by omega)
    conv => lhs; whnf
    rw [hd_i6]
    conv => lhs; whnf
    obtain ⟨x9, hq_x9, hx_x9', h⟩ := getK_inv h
    have hx_x9 := get_of (r := rBlock) hx_x9'
    try (rw [decide_eq_true hq_x9]; conv => lhs; whnf)
    rw [hx_x9]
    conv => lhs; whnf
    rw [hx_x9]
    conv => lhs; whnf
    conv => lhs; whnf
    try (rw [blt_no]; conv => lhs; whnf)
    try (rw [blt_nat]; conv => lhs; whnf)
    obtain ⟨hg12, h⟩ := grd_inv h
    rw [cl_eq hcl (f_clone (rows := x9.Pages.map rS) rfl (app_eq hg12 (List.length_map ..) rfl) (allLen_map rS _ rS_len _) rfl)]
    rotate_left
    · exact rfl
    · exact rfl
    conv => lhs; whnf
    try (rw [decide_eq_true hq_x9]; conv => lhs; whnf)
    rw [hx_x9]
    conv => lhs; whnf
    rw [hx_x9]
    conv => lhs; whnf
    conv => lhs; whnf
    try (rw [beq_yes]; conv => lhs; whnf)
    try (rw [beq_toNat]; conv => lhs; whnf)
    first | (rw [map_set_of (r := rBlock) (l := v7) (x := x9) ?hh]; case hh => exact rfl) | skip
    rw [wrap_nat i6 (by have := hn_i6; omega)]
    exact hnx8 _ _ _ _ (fun kk => by kernel_rfl) h
  · clear h
    rintro next_nx8 v7 r h
    try dsimp only at h
    have hd_i6 : (decide (((Int.toNat (a_0.Blocks.length : Int)) : Int) < (a_0.Blocks.length : Int))) = false := decide_eq_false (by omega)
    conv => lhs; whnf
    rw [hd_i6]
    conv => lhs; whnf
    obtain ⟨hN10, h⟩ := grd_inv h; conv => lhs; whnf
    obtain rfl := Option.some.inj h
    try (conv => rhs; simp only [List.length_set, List.length_append, List.length_cons, List.length_nil, Nat.zero_add, ← hN10])
    show _ = _; kernel_rfl

noncomputable def p_impl_flippedBit (a_0 : ByteArray) (a_1 : Int) : Option ByteArray :=
  grd (appOk (ByteArray.size a_0) 1 = true) <|
  getK (bytesL a_0) (IntKind.i64.wrap (Int.tdiv a_1 8)) fun x1 =>
  grd (0 ≤ (Int.tmod a_1 8)) <|
  some (bytesOf (((bytesL a_0).set (Int.toNat (IntKind.i64.wrap (Int.tdiv a_1 8))) (xorK .u8 x1 (IntKind.u8.wrap (1 * 2 ^ (min (Int.toNat (Int.tmod a_1 8)) IntKind.u8.bits))))).map rU))

set_option maxHeartbeats 4000000 in
theorem L_impl_flippedBit (a_0 : ByteArray) (a_1 : Int) {r : ByteArray} (h : p_impl_flippedBit a_0 a_1 = some r) : callL E 278 [ST a_0, IN a_1] ([] : Fo) = some (ST r, ([] : Fo)) := by
  unfold p_impl_flippedBit at h
  refine callW (fu := Try.f278) rfl rfl rfl NN ?_
  intro lp cl hlp hcl
  conv => lhs; whnf
  obtain ⟨hg2, h⟩ := grd_inv h
  rw [hg2]
  conv => lhs; whnf
  conv => lhs; whnf
  try rw [bytesL_of]
  try (rw [quo_run _ _ _ 8 (by decide)]; conv => lhs; whnf)
  conv => lhs; whnf
  obtain ⟨x1, hq_x1, hx_x1', h⟩ := getK_inv h
  have hx_x1 := get_of (r := rU) hx_x1'
  try (rw [decide_eq_true hq_x1]; conv => lhs; whnf)
  rw [hx_x1]
  conv => lhs; whnf
  rw [hx_x1]
  conv => lhs; whnf
  try (rw [rem_run _ _ _ 8 (by decide)]; conv => lhs; whnf)
  conv => lhs; whnf
  obtain ⟨hg3, h⟩ := grd_inv h
  try (rw [shl_run _ _ _ _ _ hg3]; conv => lhs; whnf)
  conv => lhs; whnf
  try (rw [decide_eq_true hq_x1]; conv => lhs; whnf)
  rw [hx_x1]
  conv => lhs; whnf
  rw [hx_x1]
  conv => lhs; whnf
  first | (rw [map_set_of (r := rU) (l := (bytesL a_0)) (x := (xorK .u8 x1 (IntKind.u8.wrap (1 * 2 ^ (min (Int.toNat (Int.tmod a_1 8)) IntKind.u8.bits))))) ?hh]; case hh => exact rfl) | skip
  try rw [byteRows_rU]
  conv => lhs; whnf
  obtain rfl := Option.some.inj h; show _ = _; kernel_rfl


noncomputable def p_impl_Flash_flip (a_0 : Int) (a_1 : Int) (a_2 : Int) (a_3 : Int) (a_4 : Int) (a_5 : Int) (a_6 : Int) (a_7 : Int) (a_8 : Bool) (a_9 : Int) (a_10 : List Block) : Option (List Block) :=
  getK a_10 a_0 fun x1 =>
  getK x1.Pages a_1 fun x2 =>
  if (x2.toList == (⟨#[]⟩ : ByteArray).toList) = true then
    some a_10
  else
    callK (p_impl_flippedBit x2 a_2) fun y4 =>
    some (a_10.set (Int.toNat a_0) (⟨x1.Erases, x1.Next, x1.Bad, (x1.Pages.set (Int.toNat a_1) y4)⟩ : Block))

set_option maxHeartbeats 4000000 in
theorem L_impl_Flash_flip (a_0 : Int) (a_1 : Int) (a_2 : Int) (a_3 : Int) (a_4 : Int) (a_5 : Int) (a_6 : Int) (a_7 : Int) (a_8 : Bool) (a_9 : Int) (a_10 : List Block) {r : (List Block)} (h : p_impl_Flash_flip a_0 a_1 a_2 a_3 a_4 a_5 a_6 a_7 a_8 a_9 a_10 = some r) : callL E 207 [.bp 0 0, IN a_0, IN a_1, IN a_2] ([some (.box [IN a_3, IN a_4, IN a_5, .nsl 1, IN a_6, IN a_7, BO a_8, IN a_9]), some (.nst ⟨91, 4, 3, 9, 1⟩ a_10.length (a_10.map rBlock))] : Fo) = some (.tup [], ([some (.box [IN a_3, IN a_4, IN a_5, .nsl 1, IN a_6, IN a_7, BO a_8, IN a_9]), some (.nst ⟨91, 4, 3, 9, 1⟩ r.length (r.map rBlock))] : Fo)) := by
  unfold p_impl_Flash_flip at h
  refine callW (fu := Try.f207) rfl rfl rfl NN ?_
  intro lp cl hlp hcl
  conv => lhs; whnf
  obtain ⟨x1, hq_x1, hx_x1', h⟩ := getK_inv h
  have hx_x1 := get_of (r := rBlock) hx_x1'
  try (rw [decide_eq_true hq_x1]; conv => lhs; whnf)
  rw [hx_x1]
  conv => lhs; whnf
  rw [hx_x1]
  conv => lhs; whnf
  conv => lhs; whnf
  try (rw [blt_of_len (n := a_10.length) hx_x1 (by simp only [List.length_set, List.length_append, List.length_cons, List.length_nil, Nat.zero_add])]; conv => lhs; whnf)
  rw [hx_x1]
  conv => lhs; whnf
  obtain ⟨x2, hq_x2, hx_x2', h⟩ := getK_inv h
  have hx_x2 := get_of (r := rS) hx_x2'
  try (rw [decide_eq_true hq_x2]; conv => lhs; whnf)
  rw [hx_x2]
  conv => lhs; whnf
  rw [hx_x1]
  conv => lhs; whnf
  rw [hx_x2]
  conv => lhs; whnf
  cases hb3 : (x2.toList == (⟨#[]⟩ : ByteArray).toList)
  · replace h := ifF h (booF hb3); conv => lhs; whnf
    rw [hx_x1]
    conv => lhs; whnf
    rw [hx_x2]
    conv => lhs; whnf
    obtain ⟨y4, h_y4, h⟩ := callK_inv h
    rw [cl_eq hcl (L_impl_flippedBit x2 a_2 h_y4)]
    rotate_left
    · show _ = _; kernel_rfl
    · show _ = _; kernel_rfl
    conv => lhs; whnf
    rw [hx_x1]
    conv => lhs; whnf
    rw [hx_x2]
    conv => lhs; whnf
    first | (rw [map_set_of (r := rS) (l := x1.Pages) (x := y4) ?hh]; case hh => exact rfl) | skip
    first | (rw [map_set_of (r := rBlock) (l := a_10) (x := (⟨x1.Erases, x1.Next, x1.Bad, (x1.Pages.set (Int.toNat a_1) y4)⟩ : Block)) ?hh]; case hh => exact rfl) | skip
    obtain rfl := Option.some.inj h
    try (conv => rhs; simp only [List.length_set, List.length_append, List.length_cons, List.length_nil, Nat.zero_add])
    show _ = _; kernel_rfl
  · replace h := ifT h hb3; conv => lhs; whnf
    obtain rfl := Option.some.inj h; show _ = _; kernel_rfl


noncomputable def p_impl_Flash_arm (a_0 : Int) (a_1 : Int) (a_2 : Int) (a_3 : Int) (a_4 : Int) (a_5 : Int) (a_6 : Int) (a_7 : Bool) (a_8 : Int) (a_9 : List Block) : Option (Int × Int × Int × Bool) :=
  if a_7 = true then
    some (8, a_5, a_6, true)
  else
    if (inR a_0 (-1) 1000000) = true then
      if (inR a_1 0 91) = true then
        some (0, a_0, a_1, false)
      else
        some (2, a_5, a_6, false)
    else
      some (2, a_5, a_6, false)

set_option maxHeartbeats 4000000 in
theorem L_impl_Flash_arm (a_0 : Int) (a_1 : Int) (a_2 : Int) (a_3 : Int) (a_4 : Int) (a_5 : Int) (a_6 : Int) (a_7 : Bool) (a_8 : Int) (a_9 : List Block) {r : (Int × Int × Int × Bool)} (h : p_impl_Flash_arm a_0 a_1 a_2 a_3 a_4 a_5 a_6 a_7 a_8 a_9 = some r) : callL E 153 [.bp 0 0, IN a_0, IN a_1] ([some (.box [IN a_2, IN a_3, IN a_4, .nsl 1, IN a_5, IN a_6, BO a_7, IN a_8]), some (.nst ⟨91, 4, 3, 9, 1⟩ a_9.length (a_9.map rBlock))] : Fo) = some (IN r.1, ([some (.box [IN a_2, IN a_3, IN a_4, .nsl 1, IN r.2.1, IN r.2.2.1, BO r.2.2.2, IN a_8]), some (.nst ⟨91, 4, 3, 9, 1⟩ a_9.length (a_9.map rBlock))] : Fo)) := by
  unfold p_impl_Flash_arm at h
  refine callW (fu := Try.f153) rfl rfl rfl NN ?_
  intro lp cl hlp hcl
  conv => lhs; whnf
  cases hb1 : a_7
  · replace h := ifF h (booF hb1); conv => lhs; whnf
    rw [cl_eq hcl (L_impl_within a_0 (-1) 1000000 (pl_within a_0 (-1) 1000000))]
    rotate_left
    · show _ = _; kernel_rfl
    · show _ = _; kernel_rfl
    conv => lhs; whnf
    cases hb2 : (inR a_0 (-1) 1000000)
    · replace h := ifF h (booF hb2); conv => lhs; whnf
      try (rw [hb2]; conv => lhs; whnf)
      try (rw [hb2]; conv => lhs; whnf)
      try (rw [hb2]; conv => lhs; whnf)
      obtain rfl := Option.some.inj h; show _ = _; kernel_rfl

    · replace h := ifT h hb2; conv => lhs; whnf
      try (rw [hb2]; conv => lhs; whnf)
      rw [cl_eq hcl (L_impl_within a_1 0 91 (pl_within a_1 0 91))]
      rotate_left
      · show _ = _; kernel_rfl
      · show _ = _; kernel_rfl
      conv => lhs; whnf
      try (rw [hb2]; conv => lhs; whnf)
      try (rw [hb2]; conv => lhs; whnf)
      cases hb3 : (inR a_1 0 91)
      · replace h := ifF h (booF hb3); conv => lhs; whnf
        obtain rfl := Option.some.inj h; show _ = _; kernel_rfl

      · replace h := ifT h hb3; conv => lhs; whnf
        obtain rfl := Option.some.inj h; show _ = _; kernel_rfl

  · replace h := ifT h hb1; conv => lhs; whnf
    obtain rfl := Option.some.inj h; show _ = _; kernel_rfl


noncomputable def p_impl_Flash_fault (a_0 : Fault) (a_1 : Int) (a_2 : Int) (a_3 : Int) (a_4 : Int) (a_5 : Int) (a_6 : Bool) (a_7 : Int) (a_8 : List Block) : Option (Int × Int × Int × Bool × (List Block)) :=
  if a_0.Kind = 1 then
    callK (p_impl_Flash_flip a_0.Block a_0.Page a_0.Bit a_1 a_2 a_3 a_4 a_5 a_6 a_7 a_8) fun y2 =>
    some (0, a_4, a_5, a_6, y2)
  else
    if a_0.Kind = 2 then
      grd (a_3 < 4611686018427387904) <|
      forI a_3 (fun (i9 : Nat) (v10 : List Block) (nx11 : (List Block) → Option _) =>
        if ¬ (i9 : Int) = a_0.Page then
          callK (p_impl_Flash_flip a_0.Block (i9 : Int) a_0.Bit a_1 a_2 a_3 a_4 a_5 a_6 a_7 v10) fun y13 =>
          nx11 y13
        else
          nx11 v10) a_8 (fun (v10 : List Block) =>
        some (0, a_4, a_5, a_6, v10))
    else
      if a_0.Kind = 3 then
        grd (a_3 < 4611686018427387904) <|
        forI a_3 (fun (i19 : Nat) (v20 : List Block) (nx21 : (List Block) → Option _) =>
          callK (p_impl_Flash_flip a_0.Block (i19 : Int) (Int.tmod (IntKind.i64.wrap (a_0.Bit + (IntKind.i64.wrap (8 * (i19 : Int))))) 728) a_1 a_2 a_3 a_4 a_5 a_6 a_7 v20) fun y22 =>
          nx21 y22) a_8 (fun (v20 : List Block) =>
          some (0, a_4, a_5, a_6, v20))
      else
        if a_0.Kind = 4 then
          getK a_8 a_0.Block fun x24 =>
          some (0, a_4, a_5, a_6, (a_8.set (Int.toNat a_0.Block) (⟨x24.Erases, x24.Next, true, x24.Pages⟩ : Block)))
        else
          if a_0.Kind = 5 then
            callK (p_impl_Flash_arm a_0.Page a_0.Bit a_1 a_2 a_3 a_4 a_5 a_6 a_7 a_8) fun y26 =>
            some (y26.1, y26.2.1, y26.2.2.1, y26.2.2.2, a_8)
          else
            some (0, a_4, a_5, a_6, a_8)

set_option maxHeartbeats 4000000 in
theorem L_impl_Flash_fault (a_0 : Fault) (a_1 : Int) (a_2 : Int) (a_3 : Int) (a_4 : Int) (a_5 : Int) (a_6 : Bool) (a_7 : Int) (a_8 : List Block) {r : (Int × Int × Int × Bool × (List Block))} (h : p_impl_Flash_fault a_0 a_1 a_2 a_3 a_4 a_5 a_6 a_7 a_8 = some r) : callL E 118 [.bp 0 0, .agg [IN a_0.Kind, IN a_0.Block, IN a_0.Page, IN a_0.Bit]] ([some (.box [IN a_1, IN a_2, IN a_3, .nsl 1, IN a_4, IN a_5, BO a_6, IN a_7]), some (.nst ⟨91, 4, 3, 9, 1⟩ a_8.length (a_8.map rBlock))] : Fo) = some (IN r.1, ([some (.box [IN a_1, IN a_2, IN a_3, .nsl 1, IN r.2.1, IN r.2.2.1, BO r.2.2.2.1, IN a_7]), some (.nst ⟨91, 4, 3, 9, 1⟩ r.2.2.2.2.length (r.2.2.2.2.map rBlock))] : Fo)) := by
  unfold p_impl_Flash_fault at h
  refine callW (fu := Try.f118) rfl rfl rfl NN ?_
  intro lp cl hlp hcl
  conv => lhs; whnf
  cases hb1 : (a_0.Kind == 1)
  · replace h := ifF h (beqF hb1); conv => lhs; whnf
    cases hb3 : (a_0.Kind == 2)
    · replace h := ifF h (beqF hb3); conv => lhs; whnf
      cases hb14 : (a_0.Kind == 3)
      · replace h := ifF h (beqF hb14); conv => lhs; whnf
        cases hb23 : (a_0.Kind == 4)
        · replace h := ifF h (beqF hb23); conv => lhs; whnf
          cases hb25 : (a_0.Kind == 5)
          · replace h := ifF h (beqF hb25); conv => lhs; whnf
            obtain rfl := Option.some.inj h; show _ = _; kernel_rfl

          · replace h := ifT h (beqT hb25); conv => lhs; whnf
            obtain ⟨y26, h_y26, h⟩ := callK_inv h
            rw [cl_eq hcl (L_impl_Flash_arm a_0.Page a_0.Bit a_1 a_2 a_3 a_4 a_5 a_6 a_7 a_8 h_y26)]
            rotate_left
            · show _ = _; kernel_rfl
            · show _ = _; kernel_rfl
            conv => lhs; whnf
            obtain rfl := Option.some.inj h; show _ = _; kernel_rfl

        · replace h := ifT h (beqT hb23); conv => lhs; whnf
          obtain ⟨x24, hq_x24, hx_x24', h⟩ := getK_inv h
          have hx_x24 := get_of (r := rBlock) hx_x24'
          try (rw [decide_eq_true hq_x24]; conv => lhs; whnf)
          rw [hx_x24]
          conv => lhs; whnf
          rw [hx_x24]
          conv => lhs; whnf
          first | (rw [map_set_of (r := rBlock) (l := a_8) (x := (⟨x24.Erases, x24.Next, true, x24.Pages⟩ : Block)) ?hh]; case hh => exact rfl) | skip
          obtain rfl := Option.some.inj h
          try (conv => rhs; simp only [List.length_set, List.length_append, List.length_cons, List.length_nil, Nat.zero_add])
          show _ = _; kernel_rfl
      · replace h := ifT h (beqT hb14); conv => lhs; whnf
        obtain ⟨hl_i19, h⟩ := grd_inv h
        refine loop_forI hlp (n := a_3) hl_i19 (fun (i19 : Nat) (v20 : List Block) => ([.bp 0 0, .dead, .dead, .bp 2 0, .dead, .dead, .dead, .dead, .dead, .dead, .dead, .dead, .dead, .dead, .dead, .dead, .dead, .dead, .dead, .dead, .dead, .dead, .dead, .dead, .dead, .dead, .dead, .dead, .dead, .dead, .dead, .dead, .dead, .dead, .dead, .dead, .dead, .dead, .dead, .dead, .dead, .dead, .dead, .dead, .dead, .dead, .dead, IN a_3, IN (i19 : Int)] ++ List.replicate 32 .dead : List V)) (fun (i19 : Nat) (v20 : List Block) => ([some (.box [IN a_1, IN a_2, IN a_3, .nsl 1, IN a_4, IN a_5, BO a_6, IN a_7]), some (.nst ⟨91, 4, 3, 9, 1⟩ v20.length (v20.map rBlock)), some (.box [IN a_0.Kind, IN a_0.Block, IN a_0.Page, IN a_0.Bit])] : Fo)) (fun (r : (Int × Int × Int × Bool × (List Block))) => ((IN r.1 : V), ([some (.box [IN a_1, IN a_2, IN a_3, .nsl 1, IN r.2.1, IN r.2.2.1, BO r.2.2.2.1, IN a_7]), some (.nst ⟨91, 4, 3, 9, 1⟩ r.2.2.2.2.length (r.2.2.2.2.map rBlock))] : Fo))) ?_ ?_ a_8 _ (fun kk => by kernel_rfl) h
        · clear h
          rintro next_nx21 nx21 i19 hi_i19 hnx21 v20 r h
          try dsimp only at h
          have hn_i19 : i19 < 4611686018427387904 := by omega
          have hd_i19 : (decide ((i19 : Int) < a_3)) = true := decide_eq_true (by omega)
          conv => lhs; whnf
          rw [hd_i19]
          conv => lhs; whnf
          try (rw [rem_run _ _ _ 728 (by decide)]; conv => lhs; whnf)
          conv => lhs; whnf
          obtain ⟨y22, h_y22, h⟩ := callK_inv h
          rw [cl_eq hcl (L_impl_Flash_flip a_0.Block (i19 : Int) (Int.tmod (IntKind.i64.wrap (a_0.Bit + (IntKind.i64.wrap (8 * (i19 : Int))))) 728) a_1 a_2 a_3 a_4 a_5 a_6 a_7 v20 h_y22)]
          rotate_left
          · show _ = _; kernel_rfl
          · show _ = _; kernel_rfl
          conv => lhs; whnf
          rw [wrap_nat i19 (by have := hn_i19; omega)]
          exact hnx21 _ _ _ _ (fun kk => by kernel_rfl) h
        · clear h
          rintro next_nx21 v20 r h
          try dsimp only at h
          have hd_i19 : (decide (((Int.toNat a_3) : Int) < a_3)) = false := decide_eq_false (by omega)
          conv => lhs; whnf
          rw [hd_i19]
          conv => lhs; whnf
          obtain rfl := Option.some.inj h; show _ = _; kernel_rfl

    · replace h := ifT h (beqT hb3); conv => lhs; whnf
      obtain ⟨hl_i9, h⟩ := grd_inv h
      refine loop_forI hlp (n := a_3) hl_i9 (fun (i9 : Nat) (v10 : List Block) => ([.bp 0 0, .dead, .dead, .bp 2 0, .dead, .dead, .dead, .dead, .dead, .dead, .dead, .dead, .dead, .dead, .dead, .dead, .dead, .dead, .dead, .dead, .dead, .dead, .dead, .dead, .dead, IN a_3, IN (i9 : Int)] ++ List.replicate 54 .dead : List V)) (fun (i9 : Nat) (v10 : List Block) => ([some (.box [IN a_1, IN a_2, IN a_3, .nsl 1, IN a_4, IN a_5, BO a_6, IN a_7]), some (.nst ⟨91, 4, 3, 9, 1⟩ v10.length (v10.map rBlock)), some (.box [IN a_0.Kind, IN a_0.Block, IN a_0.Page, IN a_0.Bit])] : Fo)) (fun (r : (Int × Int × Int × Bool × (List Block))) => ((IN r.1 : V), ([some (.box [IN a_1, IN a_2, IN a_3, .nsl 1, IN r.2.1, IN r.2.2.1, BO r.2.2.2.1, IN a_7]), some (.nst ⟨91, 4, 3, 9, 1⟩ r.2.2.2.2.length (r.2.2.2.2.map rBlock))] : Fo))) ?_ ?_ a_8 _ (fun kk => by kernel_rfl) h
      · clear h
        rintro next_nx11 nx11 i9 hi_i9 hnx11 v10 r h
        try dsimp only at h
        have hn_i9 : i9 < 4611686018427387904 := by omega
        have hd_i9 : (decide ((i9 : Int) < a_3)) = true := decide_eq_true (by omega)
        conv => lhs; whnf
        rw [hd_i9]
        conv => lhs; whnf
        cases hb12 : ((i9 : Int) != a_0.Page)
        · replace h := ifF h ((fun h => not_not_intro (bneF h)) hb12); conv => lhs; whnf
          rw [wrap_nat i9 (by have := hn_i9; omega)]
          exact hnx11 _ _ _ _ (fun kk => by kernel_rfl) h
        · replace h := ifT h (bneT hb12); conv => lhs; whnf
          obtain ⟨y13, h_y13, h⟩ := callK_inv h
          rw [cl_eq hcl (L_impl_Flash_flip a_0.Block (i9 : Int) a_0.Bit a_1 a_2 a_3 a_4 a_5 a_6 a_7 v10 h_y13)]
          rotate_left
          · show _ = _; kernel_rfl
          · show _ = _; kernel_rfl
          conv => lhs; whnf
          rw [wrap_nat i9 (by have := hn_i9; omega)]
          exact hnx11 _ _ _ _ (fun kk => by kernel_rfl) h
      · clear h
        rintro next_nx11 v10 r h
        try dsimp only at h
        have hd_i9 : (decide (((Int.toNat a_3) : Int) < a_3)) = false := decide_eq_false (by omega)
        conv => lhs; whnf
        rw [hd_i9]
        conv => lhs; whnf
        obtain rfl := Option.some.inj h; show _ = _; kernel_rfl

  · replace h := ifT h (beqT hb1); conv => lhs; whnf
    obtain ⟨y2, h_y2, h⟩ := callK_inv h
    rw [cl_eq hcl (L_impl_Flash_flip a_0.Block a_0.Page a_0.Bit a_1 a_2 a_3 a_4 a_5 a_6 a_7 a_8 h_y2)]
    rotate_left
    · show _ = _; kernel_rfl
    · show _ = _; kernel_rfl
    conv => lhs; whnf
    obtain rfl := Option.some.inj h; show _ = _; kernel_rfl


noncomputable def p_impl_ApplyFaults (a_0 : Int) (a_1 : Int) (a_2 : Int) (a_3 : Int) (a_4 : Int) (a_5 : Bool) (a_6 : Int) (a_7 : List Block) (a_8 : List Fault) : Option (Int × Int × Int × Int × Int × Bool × Int × Int × (List Block)) :=
  callK (p_impl_ValidFlash (⟨⟨a_0, a_1, a_2⟩, a_7, a_3, a_4, a_5, a_6⟩ : Flash)) fun y1 =>
  if y1 = true then
    callK (p_impl_scriptOk (⟨a_0, a_1, a_2⟩ : Geometry) a_8) fun y3 =>
    if y3 = true then
      callK (p_impl_Flash_clone (⟨⟨a_0, a_1, a_2⟩, a_7, a_3, a_4, a_5, a_6⟩ : Flash)) fun y5 =>
      grd (a_8.length < 4611686018427387904) <|
      forK a_8 (fun (i19 : Nat) x29 ((v20, v21, v22, v23, v24, v25, v26, v27) : (Int × Int × Int × Int × Int × Bool × Int × (List Block))) (nx28 : (Int × Int × Int × Int × Int × Bool × Int × (List Block)) → Option _) =>
        callK (p_impl_Flash_fault x29 v20 v21 v22 v23 v24 v25 v26 v27) fun y30 =>
        if ¬ y30.1 = 0 then
          some (0, 0, 0, 0, 0, false, 0, y30.1, ([] : List Block))
        else
          nx28 (v20, v21, v22, y30.2.1, y30.2.2.1, y30.2.2.2.1, v26, y30.2.2.2.2)) ((⟨⟨a_0, a_1, a_2⟩, a_7, a_3, a_4, a_5, a_6⟩ : Flash).Geo.Dies, (⟨⟨a_0, a_1, a_2⟩, a_7, a_3, a_4, a_5, a_6⟩ : Flash).Geo.Blocks, (⟨⟨a_0, a_1, a_2⟩, a_7, a_3, a_4, a_5, a_6⟩ : Flash).Geo.Pages, (⟨⟨a_0, a_1, a_2⟩, a_7, a_3, a_4, a_5, a_6⟩ : Flash).Fuse, (⟨⟨a_0, a_1, a_2⟩, a_7, a_3, a_4, a_5, a_6⟩ : Flash).Keep, (⟨⟨a_0, a_1, a_2⟩, a_7, a_3, a_4, a_5, a_6⟩ : Flash).Off, (⟨⟨a_0, a_1, a_2⟩, a_7, a_3, a_4, a_5, a_6⟩ : Flash).Ops, y5) (fun ((v20, v21, v22, v23, v24, v25, v26, v27) : (Int × Int × Int × Int × Int × Bool × Int × (List Block))) =>
        some (v20, v21, v22, v23, v24, v25, v26, 0, v27))
    else
      some (0, 0, 0, 0, 0, false, 0, 1, ([] : List Block))
  else
    some (0, 0, 0, 0, 0, false, 0, 1, ([] : List Block))

set_option maxHeartbeats 4000000 in
theorem L_impl_ApplyFaults (a_0 : Int) (a_1 : Int) (a_2 : Int) (a_3 : Int) (a_4 : Int) (a_5 : Bool) (a_6 : Int) (a_7 : List Block) (a_8 : List Fault) {r : (Int × Int × Int × Int × Int × Bool × Int × Int × (List Block))} (h : p_impl_ApplyFaults a_0 a_1 a_2 a_3 a_4 a_5 a_6 a_7 a_8 = some r) : callL E 38 [.agg [IN a_0, IN a_1, IN a_2, .nsl 0, IN a_3, IN a_4, BO a_5, IN a_6], .sl 1] ([some (.nst ⟨91, 4, 3, 9, 1⟩ a_7.length (a_7.map rBlock)), some (.arr 54 4 (a_8.map rFault))] : Fo) = some (.tup [.agg [IN r.1, IN r.2.1, IN r.2.2.1, .nsl 2, IN r.2.2.2.1, IN r.2.2.2.2.1, BO r.2.2.2.2.2.1, IN r.2.2.2.2.2.2.1], IN r.2.2.2.2.2.2.2.1], ([some (.nst ⟨91, 4, 3, 9, 1⟩ a_7.length (a_7.map rBlock)), some (.arr 54 4 (a_8.map rFault)), some (.nst ⟨91, 4, 3, 9, 1⟩ r.2.2.2.2.2.2.2.2.length (r.2.2.2.2.2.2.2.2.map rBlock))] : Fo)) := by
  unfold p_impl_ApplyFaults at h
  refine callW (fu := Try.f38) rfl rfl rfl NN ?_
  intro lp cl hlp hcl
  conv => lhs; whnf
  obtain ⟨y1, h_y1, h⟩ := callK_inv h
  rw [cl_eq hcl (L_impl_ValidFlash (⟨⟨a_0, a_1, a_2⟩, a_7, a_3, a_4, a_5, a_6⟩ : Flash) h_y1)]
  rotate_left
  · show _ = _; kernel_rfl
  · show _ = _; kernel_rfl
  conv => lhs; whnf
  cases hb2 : y1
  · replace h := ifF h (booF hb2); conv => lhs; whnf
    try (rw [hb2]; conv => lhs; whnf)
    try (rw [hb2]; conv => lhs; whnf)
    try (rw [hb2]; conv => lhs; whnf)
    try (rw [hb2]; conv => lhs; whnf)
    try (rw [hb2]; conv => lhs; whnf)
    obtain rfl := Option.some.inj h; show _ = _; kernel_rfl

  · replace h := ifT h hb2; conv => lhs; whnf
    try (rw [hb2]; conv => lhs; whnf)
    try (rw [hb2]; conv => lhs; whnf)
    try (rw [hb2]; conv => lhs; whnf)
    obtain ⟨y3, h_y3, h⟩ := callK_inv h
    rw [cl_eq hcl (L_impl_scriptOk (⟨a_0, a_1, a_2⟩ : Geometry) a_8 h_y3)]
    rotate_left
    · show _ = _; kernel_rfl
    · show _ = _; kernel_rfl
    conv => lhs; whnf
    try (rw [hb2]; conv => lhs; whnf)
    try (rw [hb2]; conv => lhs; whnf)
    cases hb4 : y3
    · replace h := ifF h (booF hb4); conv => lhs; whnf
      obtain rfl := Option.some.inj h; show _ = _; kernel_rfl

    · replace h := ifT h hb4
      try rw [hb4] at h
      conv => lhs; whnf
      obtain ⟨y5, h_y5, h⟩ := callK_inv h
      rw [cl_eq hcl (L_impl_Flash_clone (⟨⟨a_0, a_1, a_2⟩, a_7, a_3, a_4, a_5, a_6⟩ : Flash) h_y5)]
      rotate_left
      · show _ = _; kernel_rfl
      · show _ = _; kernel_rfl
      conv => lhs; whnf
      conv => lhs; whnf
      try (rw [litF_nst (f := rBlock) (g := rS) (p := fun x => x.Pages) (fun _ => rfl) (fun _ => rfl) (fun _ => rfl)]; conv => lhs; whnf)
      try rw [len_of (l := a_8) (r := rFault)]
      obtain ⟨hl_i19, h⟩ := grd_inv h
      refine loop_for hlp (l := a_8) hl_i19 (fun (i19 : Nat) ((v20, v21, v22, v23, v24, v25, v26, v27) : (Int × Int × Int × Int × Int × Bool × Int × (List Block))) => ([.dead, .dead, .dead, .dead, .bp 2 0, .dead, .bp 3 0, .dead, .dead, .dead, .dead, .dead, .dead, .dead, .dead, .dead, .dead, .dead, .dead, .dead, .dead, .dead, .dead, .sl 1, IN (a_8.length : Int), IN (i19 : Int)] ++ List.replicate 11 .dead : List V)) (fun (i19 : Nat) ((v20, v21, v22, v23, v24, v25, v26, v27) : (Int × Int × Int × Int × Int × Bool × Int × (List Block))) => ([some (.nst ⟨91, 4, 3, 9, 1⟩ a_7.length (a_7.map rBlock)), some (.arr 54 4 (a_8.map rFault)), some (.box [IN 0, IN 0, IN 0, .d (.arr (([] : List Block).map rBlock)), IN 0, IN 0, BO false, IN 0]), some (.box [IN v20, IN v21, IN v22, .nsl 4, IN v23, IN v24, BO v25, IN v26]), some (.nst ⟨91, 4, 3, 9, 1⟩ v27.length (v27.map rBlock))] : Fo)) (fun (r : (Int × Int × Int × Int × Int × Bool × Int × Int × (List Block))) => ((.tup [.agg [IN r.1, IN r.2.1, IN r.2.2.1, .nsl 2, IN r.2.2.2.1, IN r.2.2.2.2.1, BO r.2.2.2.2.2.1, IN r.2.2.2.2.2.2.1], IN r.2.2.2.2.2.2.2.1] : V), ([some (.nst ⟨91, 4, 3, 9, 1⟩ a_7.length (a_7.map rBlock)), some (.arr 54 4 (a_8.map rFault)), some (.nst ⟨91, 4, 3, 9, 1⟩ r.2.2.2.2.2.2.2.2.length (r.2.2.2.2.2.2.2.2.map rBlock))] : Fo))) ?_ ?_ ((⟨⟨a_0, a_1, a_2⟩, a_7, a_3, a_4, a_5, a_6⟩ : Flash).Geo.Dies, (⟨⟨a_0, a_1, a_2⟩, a_7, a_3, a_4, a_5, a_6⟩ : Flash).Geo.Blocks, (⟨⟨a_0, a_1, a_2⟩, a_7, a_3, a_4, a_5, a_6⟩ : Flash).Geo.Pages, (⟨⟨a_0, a_1, a_2⟩, a_7, a_3, a_4, a_5, a_6⟩ : Flash).Fuse, (⟨⟨a_0, a_1, a_2⟩, a_7, a_3, a_4, a_5, a_6⟩ : Flash).Keep, (⟨⟨a_0, a_1, a_2⟩, a_7, a_3, a_4, a_5, a_6⟩ : Flash).Off, (⟨⟨a_0, a_1, a_2⟩, a_7, a_3, a_4, a_5, a_6⟩ : Flash).Ops, y5) _ (fun kk => by kernel_rfl) h
      · clear h
        rintro next_nx28 nx28 i19 hi_i19 hnx28 ⟨v20, v21, v22, v23, v24, v25, v26, v27⟩ r h
        try dsimp only at h
        have hn_i19 : i19 < 4611686018427387904 := by omega
        have hx_x29 := get_map rFault a_8 i19 hi_i19
        generalize a_8[i19] = x29 at h hx_x29
        have hd_i19 : (decide ((i19 : Int) < (a_8.length : Int))) = true := decide_eq_true (by omega)
        conv => lhs; whnf
        rw [hd_i19]
        conv => lhs; whnf
        try (rw [decide_eq_true hq_x29]; conv => lhs; whnf)
        rw [hx_x29]
        conv => lhs; whnf
        rw [hx_x29]
        conv => lhs; whnf
        obtain ⟨y30, h_y30, h⟩ := callK_inv h
        rw [cl_eq hcl (L_impl_Flash_fault x29 v20 v21 v22 v23 v24 v25 v26 v27 h_y30)]
        rotate_left
        · show _ = _; kernel_rfl
        · show _ = _; kernel_rfl
        conv => lhs; whnf
        cases hb31 : (y30.1 != 0)
        · replace h := ifF h ((fun h => not_not_intro (bneF h)) hb31); conv => lhs; whnf
          rw [wrap_nat i19 (by have := hn_i19; omega)]
          exact hnx28 _ _ _ _ (fun kk => by kernel_rfl) h
        · replace h := ifT h (bneT hb31); conv => lhs; whnf
          obtain rfl := Option.some.inj h; show _ = _; kernel_rfl

      · clear h
        rintro next_nx28 ⟨v20, v21, v22, v23, v24, v25, v26, v27⟩ r h
        try dsimp only at h
        have hd_i19 : (decide ((a_8.length : Int) < (a_8.length : Int))) = false := decide_eq_false (by omega)
        conv => lhs; whnf
        rw [hd_i19]
        conv => lhs; whnf
        obtain rfl := Option.some.inj h; show _ = _; kernel_rfl


noncomputable def p_laws_eqGeometry (a_0 : Geometry) (a_1 : Geometry) : Option Bool :=
  if ¬ a_0.Dies = a_1.Dies then
    some false
  else
    if ¬ a_0.Blocks = a_1.Blocks then
      some false
    else
      if ¬ a_0.Pages = a_1.Pages then
        some false
      else
        some true

set_option maxHeartbeats 4000000 in
theorem L_laws_eqGeometry (a_0 : Geometry) (a_1 : Geometry) {r : Bool} (h : p_laws_eqGeometry a_0 a_1 = some r) : callL E 107 [.agg [IN a_0.Dies, IN a_0.Blocks, IN a_0.Pages], .agg [IN a_1.Dies, IN a_1.Blocks, IN a_1.Pages]] ([] : Fo) = some (BO r, ([] : Fo)) := by
  unfold p_laws_eqGeometry at h
  refine callW (fu := Try.f107) rfl rfl rfl NN ?_
  intro lp cl hlp hcl
  conv => lhs; whnf
  cases hb1 : (a_0.Dies != a_1.Dies)
  · replace h := ifF h ((fun h => not_not_intro (bneF h)) hb1); conv => lhs; whnf
    cases hb2 : (a_0.Blocks != a_1.Blocks)
    · replace h := ifF h ((fun h => not_not_intro (bneF h)) hb2); conv => lhs; whnf
      cases hb3 : (a_0.Pages != a_1.Pages)
      · replace h := ifF h ((fun h => not_not_intro (bneF h)) hb3); conv => lhs; whnf
        obtain rfl := Option.some.inj h; show _ = _; kernel_rfl

      · replace h := ifT h (bneT hb3); conv => lhs; whnf
        obtain rfl := Option.some.inj h; show _ = _; kernel_rfl

    · replace h := ifT h (bneT hb2); conv => lhs; whnf
      obtain rfl := Option.some.inj h; show _ = _; kernel_rfl

  · replace h := ifT h (bneT hb1); conv => lhs; whnf
    obtain rfl := Option.some.inj h; show _ = _; kernel_rfl


noncomputable def p_laws_eqStringS (a_0 : List ByteArray) (a_1 : List ByteArray) : Option Bool :=
  if ¬ (a_0.length : Int) = (a_1.length : Int) then
    some false
  else
    grd (a_0.length < 4611686018427387904) <|
    forK a_0 (fun (i7 : Nat) x9 (_ : Unit) (nx8 : Unit → Option _) =>
      getK a_1 (i7 : Int) fun x10 =>
      if (x9.toList == x10.toList) = true then
        nx8 ()
      else
        some false) () (fun (_ : Unit) =>
      some true)

set_option maxHeartbeats 4000000 in
theorem L_laws_eqStringS (a_0 : List ByteArray) (a_1 : List ByteArray) {r : Bool} (h : p_laws_eqStringS a_0 a_1 = some r) : callL E 275 [.d (.arr (a_0.map rS)), .d (.arr (a_1.map rS))] ([] : Fo) = some (BO r, ([] : Fo)) := by
  unfold p_laws_eqStringS at h
  refine callW (fu := Try.f275) rfl rfl rfl NN ?_
  intro lp cl hlp hcl
  conv => lhs; whnf
  try rw [len_of (l := a_0) (r := rS)]
  try rw [len_of (l := a_1) (r := rS)]
  cases hb1 : ((a_0.length : Int) != (a_1.length : Int))
  · replace h := ifF h ((fun h => not_not_intro (bneF h)) hb1); conv => lhs; whnf
    obtain ⟨hl_i7, h⟩ := grd_inv h
    refine loop_for hlp (l := a_0) hl_i7 (fun (i7 : Nat) (_ : Unit) => ([.d (.arr (a_0.map rS)), .d (.arr (a_1.map rS)), .dead, .dead, .dead, IN (i7 : Int)] ++ List.replicate 20 .dead : List V)) (fun (i7 : Nat) (_ : Unit) => ([] : Fo)) (fun (r : Bool) => ((BO r : V), ([] : Fo))) ?_ ?_ () _ (fun kk => by kernel_rfl) h
    · clear h
      rintro next_nx8 nx8 i7 hi_i7 hnx8 ⟨⟩ r h
      try dsimp only at h
      have hn_i7 : i7 < 4611686018427387904 := by omega
      have hx_x9 := get_map rS a_0 i7 hi_i7
      generalize a_0[i7] = x9 at h hx_x9
      have hd_i7 : (decide ((i7 : Int) < (a_0.length : Int))) = true := decide_eq_true (by omega)
      conv => lhs; whnf
      try rw [len_of (l := a_0) (r := rS)]
      rw [hd_i7]
      conv => lhs; whnf
      try (rw [decide_eq_true hq_x9]; conv => lhs; whnf)
      rw [hx_x9]
      conv => lhs; whnf
      rw [hx_x9]
      conv => lhs; whnf
      obtain ⟨x10, hq_x10, hx_x10', h⟩ := getK_inv h
      have hx_x10 := get_of (r := rS) hx_x10'
      try (rw [decide_eq_true hq_x10]; conv => lhs; whnf)
      rw [hx_x10]
      conv => lhs; whnf
      rw [hx_x10]
      conv => lhs; whnf
      cases hb11 : (x9.toList == x10.toList)
      · replace h := ifF h (booF hb11); conv => lhs; whnf
        obtain rfl := Option.some.inj h; show _ = _; kernel_rfl

      · replace h := ifT h hb11; conv => lhs; whnf
        rw [wrap_nat i7 (by have := hn_i7; omega)]
        exact hnx8 _ _ _ _ (fun kk => by kernel_rfl) h
    · clear h
      rintro next_nx8 ⟨⟩ r h
      try dsimp only at h
      have hd_i7 : (decide ((a_0.length : Int) < (a_0.length : Int))) = false := decide_eq_false (by omega)
      conv => lhs; whnf
      try rw [len_of (l := a_0) (r := rS)]
      rw [hd_i7]
      conv => lhs; whnf
      obtain rfl := Option.some.inj h; show _ = _; kernel_rfl

  · replace h := ifT h (bneT hb1); conv => lhs; whnf
    obtain rfl := Option.some.inj h; show _ = _; kernel_rfl


noncomputable def p_laws_eqBlock (a_0 : Block) (a_1 : Block) : Option Bool :=
  if ¬ a_0.Erases = a_1.Erases then
    some false
  else
    if ¬ a_0.Next = a_1.Next then
      some false
    else
      if (a_0.Bad == a_1.Bad) = true then
        callK (p_laws_eqStringS a_0.Pages a_1.Pages) fun y4 =>
        if y4 = true then
          some true
        else
          some false
      else
        some false

set_option maxHeartbeats 4000000 in
theorem L_laws_eqBlock (a_0 : Block) (a_1 : Block) {r : Bool} (h : p_laws_eqBlock a_0 a_1 = some r) : callL E 192 [.agg [IN a_0.Erases, IN a_0.Next, BO a_0.Bad, .d (.arr (a_0.Pages.map rS))], .agg [IN a_1.Erases, IN a_1.Next, BO a_1.Bad, .d (.arr (a_1.Pages.map rS))]] ([] : Fo) = some (BO r, ([] : Fo)) := by
  unfold p_laws_eqBlock at h
  refine callW (fu := Try.f192) rfl rfl rfl NN ?_
  intro lp cl hlp hcl
  conv => lhs; whnf
  cases hb1 : (a_0.Erases != a_1.Erases)
  · replace h := ifF h ((fun h => not_not_intro (bneF h)) hb1); conv => lhs; whnf
    cases hb2 : (a_0.Next != a_1.Next)
    · replace h := ifF h ((fun h => not_not_intro (bneF h)) hb2); conv => lhs; whnf
      cases hb3 : (a_0.Bad == a_1.Bad)
      · replace h := ifF h (booF hb3); conv => lhs; whnf
        obtain rfl := Option.some.inj h; show _ = _; kernel_rfl

      · replace h := ifT h hb3; conv => lhs; whnf
        obtain ⟨y4, h_y4, h⟩ := callK_inv h
        rw [cl_eq hcl (L_laws_eqStringS a_0.Pages a_1.Pages h_y4)]
        rotate_left
        · show _ = _; kernel_rfl
        · show _ = _; kernel_rfl
        conv => lhs; whnf
        cases hb5 : y4
        · replace h := ifF h (booF hb5); conv => lhs; whnf
          obtain rfl := Option.some.inj h; show _ = _; kernel_rfl

        · replace h := ifT h hb5; conv => lhs; whnf
          obtain rfl := Option.some.inj h; show _ = _; kernel_rfl

    · replace h := ifT h (bneT hb2); conv => lhs; whnf
      obtain rfl := Option.some.inj h; show _ = _; kernel_rfl

  · replace h := ifT h (bneT hb1); conv => lhs; whnf
    obtain rfl := Option.some.inj h; show _ = _; kernel_rfl


noncomputable def p_laws_eqBlockS (a_0 : List Block) (a_1 : List Block) : Option Bool :=
  if ¬ (a_0.length : Int) = (a_1.length : Int) then
    some false
  else
    grd (a_0.length < 4611686018427387904) <|
    forK a_0 (fun (i8 : Nat) x10 (_ : Unit) (nx9 : Unit → Option _) =>
      getK a_1 (i8 : Int) fun x11 =>
      callK (p_laws_eqBlock x10 x11) fun y12 =>
      if y12 = true then
        nx9 ()
      else
        some false) () (fun (_ : Unit) =>
      some true)

set_option maxHeartbeats 4000000 in
theorem L_laws_eqBlockS (a_0 : List Block) (a_1 : List Block) {r : Bool} (h : p_laws_eqBlockS a_0 a_1 = some r) : callL E 108 [.d (.arr (a_0.map rBlock)), .d (.arr (a_1.map rBlock))] ([] : Fo) = some (BO r, ([] : Fo)) := by
  unfold p_laws_eqBlockS at h
  refine callW (fu := Try.f108) rfl rfl rfl NN ?_
  intro lp cl hlp hcl
  conv => lhs; whnf
  try rw [len_of (l := a_0) (r := rBlock)]
  try rw [len_of (l := a_1) (r := rBlock)]
  cases hb1 : ((a_0.length : Int) != (a_1.length : Int))
  · replace h := ifF h ((fun h => not_not_intro (bneF h)) hb1); conv => lhs; whnf
    obtain ⟨hl_i8, h⟩ := grd_inv h
    refine loop_for hlp (l := a_0) hl_i8 (fun (i8 : Nat) (_ : Unit) => ([.d (.arr (a_0.map rBlock)), .d (.arr (a_1.map rBlock)), .dead, .dead, .dead, IN (i8 : Int)] ++ List.replicate 21 .dead : List V)) (fun (i8 : Nat) (_ : Unit) => ([] : Fo)) (fun (r : Bool) => ((BO r : V), ([] : Fo))) ?_ ?_ () _ (fun kk => by kernel_rfl) h
    · clear h
      rintro next_nx9 nx9 i8 hi_i8 hnx9 ⟨⟩ r h
      try dsimp only at h
      have hn_i8 : i8 < 4611686018427387904 := by omega
      have hx_x10 := get_map rBlock a_0 i8 hi_i8
      generalize a_0[i8] = x10 at h hx_x10
      have hd_i8 : (decide ((i8 : Int) < (a_0.length : Int))) = true := decide_eq_true (by omega)
      conv => lhs; whnf
      try rw [len_of (l := a_0) (r := rBlock)]
      rw [hd_i8]
      conv => lhs; whnf
      try (rw [decide_eq_true hq_x10]; conv => lhs; whnf)
      rw [hx_x10]
      conv => lhs; whnf
      rw [hx_x10]
      conv => lhs; whnf
      obtain ⟨x11, hq_x11, hx_x11', h⟩ := getK_inv h
      have hx_x11 := get_of (r := rBlock) hx_x11'
      try (rw [decide_eq_true hq_x11]; conv => lhs; whnf)
      rw [hx_x11]
      conv => lhs; whnf
      rw [hx_x11]
      conv => lhs; whnf
      obtain ⟨y12, h_y12, h⟩ := callK_inv h
      rw [cl_eq hcl (L_laws_eqBlock x10 x11 h_y12)]
      rotate_left
      · show _ = _; kernel_rfl
      · show _ = _; kernel_rfl
      conv => lhs; whnf
      cases hb13 : y12
      · replace h := ifF h (booF hb13); conv => lhs; whnf
        obtain rfl := Option.some.inj h; show _ = _; kernel_rfl

      · replace h := ifT h hb13; conv => lhs; whnf
        rw [wrap_nat i8 (by have := hn_i8; omega)]
        exact hnx9 _ _ _ _ (fun kk => by kernel_rfl) h
    · clear h
      rintro next_nx9 ⟨⟩ r h
      try dsimp only at h
      have hd_i8 : (decide ((a_0.length : Int) < (a_0.length : Int))) = false := decide_eq_false (by omega)
      conv => lhs; whnf
      try rw [len_of (l := a_0) (r := rBlock)]
      rw [hd_i8]
      conv => lhs; whnf
      obtain rfl := Option.some.inj h; show _ = _; kernel_rfl

  · replace h := ifT h (bneT hb1); conv => lhs; whnf
    obtain rfl := Option.some.inj h; show _ = _; kernel_rfl


noncomputable def p_laws_eqFlash (a_0 : Flash) (a_1 : Flash) : Option Bool :=
  callK (p_laws_eqGeometry a_0.Geo a_1.Geo) fun y1 =>
  if y1 = true then
    callK (p_laws_eqBlockS a_0.Blocks a_1.Blocks) fun y3 =>
    if y3 = true then
      if ¬ a_0.Fuse = a_1.Fuse then
        some false
      else
        if ¬ a_0.Keep = a_1.Keep then
          some false
        else
          if (a_0.Off == a_1.Off) = true then
            if ¬ a_0.Ops = a_1.Ops then
              some false
            else
              some true
          else
            some false
    else
      some false
  else
    some false

set_option maxHeartbeats 4000000 in
theorem L_laws_eqFlash (a_0 : Flash) (a_1 : Flash) {r : Bool} (h : p_laws_eqFlash a_0 a_1 = some r) : callL E 32 [.agg [IN a_0.Geo.Dies, IN a_0.Geo.Blocks, IN a_0.Geo.Pages, .d (.arr (a_0.Blocks.map rBlock)), IN a_0.Fuse, IN a_0.Keep, BO a_0.Off, IN a_0.Ops], .agg [IN a_1.Geo.Dies, IN a_1.Geo.Blocks, IN a_1.Geo.Pages, .d (.arr (a_1.Blocks.map rBlock)), IN a_1.Fuse, IN a_1.Keep, BO a_1.Off, IN a_1.Ops]] ([] : Fo) = some (BO r, ([] : Fo)) := by
  unfold p_laws_eqFlash at h
  refine callW (fu := Try.f32) rfl rfl rfl NN ?_
  intro lp cl hlp hcl
  conv => lhs; whnf
  obtain ⟨y1, h_y1, h⟩ := callK_inv h
  rw [cl_eq hcl (L_laws_eqGeometry a_0.Geo a_1.Geo h_y1)]
  rotate_left
  · show _ = _; kernel_rfl
  · show _ = _; kernel_rfl
  conv => lhs; whnf
  cases hb2 : y1
  · replace h := ifF h (booF hb2); conv => lhs; whnf
    obtain rfl := Option.some.inj h; show _ = _; kernel_rfl

  · replace h := ifT h hb2; conv => lhs; whnf
    obtain ⟨y3, h_y3, h⟩ := callK_inv h
    rw [cl_eq hcl (L_laws_eqBlockS a_0.Blocks a_1.Blocks h_y3)]
    rotate_left
    · show _ = _; kernel_rfl
    · show _ = _; kernel_rfl
    conv => lhs; whnf
    cases hb4 : y3
    · replace h := ifF h (booF hb4); conv => lhs; whnf
      obtain rfl := Option.some.inj h; show _ = _; kernel_rfl

    · replace h := ifT h hb4; conv => lhs; whnf
      cases hb5 : (a_0.Fuse != a_1.Fuse)
      · replace h := ifF h ((fun h => not_not_intro (bneF h)) hb5); conv => lhs; whnf
        cases hb6 : (a_0.Keep != a_1.Keep)
        · replace h := ifF h ((fun h => not_not_intro (bneF h)) hb6); conv => lhs; whnf
          cases hb7 : (a_0.Off == a_1.Off)
          · replace h := ifF h (booF hb7); conv => lhs; whnf
            obtain rfl := Option.some.inj h; show _ = _; kernel_rfl

          · replace h := ifT h hb7; conv => lhs; whnf
            cases hb8 : (a_0.Ops != a_1.Ops)
            · replace h := ifF h ((fun h => not_not_intro (bneF h)) hb8); conv => lhs; whnf
              obtain rfl := Option.some.inj h; show _ = _; kernel_rfl

            · replace h := ifT h (bneT hb8); conv => lhs; whnf
              obtain rfl := Option.some.inj h; show _ = _; kernel_rfl

        · replace h := ifT h (bneT hb6); conv => lhs; whnf
          obtain rfl := Option.some.inj h; show _ = _; kernel_rfl

      · replace h := ifT h (bneT hb5); conv => lhs; whnf
        obtain rfl := Option.some.inj h; show _ = _; kernel_rfl


noncomputable def p_laws_eqFault (a_0 : Fault) (a_1 : Fault) : Option Bool :=
  if ¬ a_0.Kind = a_1.Kind then
    some false
  else
    if ¬ a_0.Block = a_1.Block then
      some false
    else
      if ¬ a_0.Page = a_1.Page then
        some false
      else
        if ¬ a_0.Bit = a_1.Bit then
          some false
        else
          some true

set_option maxHeartbeats 4000000 in
theorem L_laws_eqFault (a_0 : Fault) (a_1 : Fault) {r : Bool} (h : p_laws_eqFault a_0 a_1 = some r) : callL E 119 [.agg [IN a_0.Kind, IN a_0.Block, IN a_0.Page, IN a_0.Bit], .agg [IN a_1.Kind, IN a_1.Block, IN a_1.Page, IN a_1.Bit]] ([] : Fo) = some (BO r, ([] : Fo)) := by
  unfold p_laws_eqFault at h
  refine callW (fu := Try.f119) rfl rfl rfl NN ?_
  intro lp cl hlp hcl
  conv => lhs; whnf
  cases hb1 : (a_0.Kind != a_1.Kind)
  · replace h := ifF h ((fun h => not_not_intro (bneF h)) hb1); conv => lhs; whnf
    cases hb2 : (a_0.Block != a_1.Block)
    · replace h := ifF h ((fun h => not_not_intro (bneF h)) hb2); conv => lhs; whnf
      cases hb3 : (a_0.Page != a_1.Page)
      · replace h := ifF h ((fun h => not_not_intro (bneF h)) hb3); conv => lhs; whnf
        cases hb4 : (a_0.Bit != a_1.Bit)
        · replace h := ifF h ((fun h => not_not_intro (bneF h)) hb4); conv => lhs; whnf
          obtain rfl := Option.some.inj h; show _ = _; kernel_rfl

        · replace h := ifT h (bneT hb4); conv => lhs; whnf
          obtain rfl := Option.some.inj h; show _ = _; kernel_rfl

      · replace h := ifT h (bneT hb3); conv => lhs; whnf
        obtain rfl := Option.some.inj h; show _ = _; kernel_rfl

    · replace h := ifT h (bneT hb2); conv => lhs; whnf
      obtain rfl := Option.some.inj h; show _ = _; kernel_rfl

  · replace h := ifT h (bneT hb1); conv => lhs; whnf
    obtain rfl := Option.some.inj h; show _ = _; kernel_rfl


noncomputable def p_laws_eqFaultS (a_0 : List Fault) (a_1 : List Fault) : Option Bool :=
  if ¬ (a_0.length : Int) = (a_1.length : Int) then
    some false
  else
    grd (a_0.length < 4611686018427387904) <|
    forK a_0 (fun (i8 : Nat) x10 (_ : Unit) (nx9 : Unit → Option _) =>
      getK a_1 (i8 : Int) fun x11 =>
      callK (p_laws_eqFault x10 x11) fun y12 =>
      if y12 = true then
        nx9 ()
      else
        some false) () (fun (_ : Unit) =>
      some true)

set_option maxHeartbeats 4000000 in
theorem L_laws_eqFaultS (a_0 : List Fault) (a_1 : List Fault) {r : Bool} (h : p_laws_eqFaultS a_0 a_1 = some r) : callL E 39 [.d (.arr (a_0.map rFault)), .d (.arr (a_1.map rFault))] ([] : Fo) = some (BO r, ([] : Fo)) := by
  unfold p_laws_eqFaultS at h
  refine callW (fu := Try.f39) rfl rfl rfl NN ?_
  intro lp cl hlp hcl
  conv => lhs; whnf
  try rw [len_of (l := a_0) (r := rFault)]
  try rw [len_of (l := a_1) (r := rFault)]
  cases hb1 : ((a_0.length : Int) != (a_1.length : Int))
  · replace h := ifF h ((fun h => not_not_intro (bneF h)) hb1); conv => lhs; whnf
    obtain ⟨hl_i8, h⟩ := grd_inv h
    refine loop_for hlp (l := a_0) hl_i8 (fun (i8 : Nat) (_ : Unit) => ([.d (.arr (a_0.map rFault)), .d (.arr (a_1.map rFault)), .dead, .dead, .dead, IN (i8 : Int)] ++ List.replicate 21 .dead : List V)) (fun (i8 : Nat) (_ : Unit) => ([] : Fo)) (fun (r : Bool) => ((BO r : V), ([] : Fo))) ?_ ?_ () _ (fun kk => by kernel_rfl) h
    · clear h
      rintro next_nx9 nx9 i8 hi_i8 hnx9 ⟨⟩ r h
      try dsimp only at h
      have hn_i8 : i8 < 4611686018427387904 := by omega
      have hx_x10 := get_map rFault a_0 i8 hi_i8
      generalize a_0[i8] = x10 at h hx_x10
      have hd_i8 : (decide ((i8 : Int) < (a_0.length : Int))) = true := decide_eq_true (by omega)
      conv => lhs; whnf
      try rw [len_of (l := a_0) (r := rFault)]
      rw [hd_i8]
      conv => lhs; whnf
      try (rw [decide_eq_true hq_x10]; conv => lhs; whnf)
      rw [hx_x10]
      conv => lhs; whnf
      rw [hx_x10]
      conv => lhs; whnf
      obtain ⟨x11, hq_x11, hx_x11', h⟩ := getK_inv h
      have hx_x11 := get_of (r := rFault) hx_x11'
      try (rw [decide_eq_true hq_x11]; conv => lhs; whnf)
      rw [hx_x11]
      conv => lhs; whnf
      rw [hx_x11]
      conv => lhs; whnf
      obtain ⟨y12, h_y12, h⟩ := callK_inv h
      rw [cl_eq hcl (L_laws_eqFault x10 x11 h_y12)]
      rotate_left
      · show _ = _; kernel_rfl
      · show _ = _; kernel_rfl
      conv => lhs; whnf
      cases hb13 : y12
      · replace h := ifF h (booF hb13); conv => lhs; whnf
        obtain rfl := Option.some.inj h; show _ = _; kernel_rfl

      · replace h := ifT h hb13; conv => lhs; whnf
        rw [wrap_nat i8 (by have := hn_i8; omega)]
        exact hnx9 _ _ _ _ (fun kk => by kernel_rfl) h
    · clear h
      rintro next_nx9 ⟨⟩ r h
      try dsimp only at h
      have hd_i8 : (decide ((a_0.length : Int) < (a_0.length : Int))) = false := decide_eq_false (by omega)
      conv => lhs; whnf
      try rw [len_of (l := a_0) (r := rFault)]
      rw [hd_i8]
      conv => lhs; whnf
      obtain rfl := Option.some.inj h; show _ = _; kernel_rfl

  · replace h := ifT h (bneT hb1); conv => lhs; whnf
    obtain rfl := Option.some.inj h; show _ = _; kernel_rfl


noncomputable def p_laws_markText (a_0 : Int) : Option ByteArray :=
  if a_0 ≤ 0 then
    some (⟨#[109, 48]⟩ : ByteArray)
  else
    iterK (fun ((v2, v3) : (Int × ByteArray)) (nx4 : (Int × ByteArray) → Option _) =>
      if v2 > 0 then
        grd (((ByteArray.size (bytesOf ([[.lit (.int .u8 (IntKind.u8.wrap (IntKind.i64.wrap (48 + (Int.tmod v2 10)))))]] : List (List D))) + ByteArray.size v3 : Nat) : Int) ≤ 9223372036854775807) <|
        nx4 ((IntKind.i64.wrap (Int.tdiv v2 10)), ((bytesOf ([[.lit (.int .u8 (IntKind.u8.wrap (IntKind.i64.wrap (48 + (Int.tmod v2 10)))))]] : List (List D))) ++ v3))
      else
        grd (((ByteArray.size (⟨#[109]⟩ : ByteArray) + ByteArray.size v3 : Nat) : Int) ≤ 9223372036854775807) <|
        some ((⟨#[109]⟩ : ByteArray) ++ v3)) NN (a_0, (⟨#[]⟩ : ByteArray))

set_option maxHeartbeats 4000000 in
theorem L_laws_markText (a_0 : Int) {r : ByteArray} (h : p_laws_markText a_0 = some r) : callL E 101 [IN a_0] ([] : Fo) = some (ST r, ([] : Fo)) := by
  unfold p_laws_markText at h
  refine callW (fu := Try.f101) rfl rfl rfl NN ?_
  intro lp cl hlp hcl
  conv => lhs; whnf
  cases hb1 : (decide (a_0 ≤ 0))
  · replace h := ifF h (decF hb1); conv => lhs; whnf
    refine loop_iter hlp (fun ((v2, v3) : (Int × ByteArray)) => ([IN v2, .dead, .dead, ST v3] ++ List.replicate 16 .dead : List V)) (fun ((v2, v3) : (Int × ByteArray)) => ([] : Fo)) (fun (r : ByteArray) => ((ST r : V), ([] : Fo))) ?_ (a_0, (⟨#[]⟩ : ByteArray)) _ (fun kk => by kernel_rfl) h
    clear h
    rintro next_nx4 nx4 hnx4 ⟨v2, v3⟩ r h
    try dsimp only at h
    conv => lhs; whnf
    cases hb5 : (decide (v2 > 0))
    · replace h := ifF h (decF hb5); conv => lhs; whnf
      obtain ⟨hg6, h⟩ := grd_inv h
      rw [cat_run _ _ _ hg6]
      conv => lhs; whnf
      obtain rfl := Option.some.inj h; show _ = _; kernel_rfl

    · replace h := ifT h (decT hb5); conv => lhs; whnf
      try (rw [rem_run _ _ _ 10 (by decide)]; conv => lhs; whnf)
      conv => lhs; whnf
      obtain ⟨hg7, h⟩ := grd_inv h
      rw [cat_run _ _ _ hg7]
      conv => lhs; whnf
      try (rw [quo_run _ _ _ 10 (by decide)]; conv => lhs; whnf)
      conv => lhs; whnf
      exact hnx4 _ _ _ _ (fun kk => by kernel_rfl) h
  · replace h := ifT h (decT hb1); conv => lhs; whnf
    obtain rfl := Option.some.inj h; show _ = _; kernel_rfl


noncomputable def p_laws_markStringS (a_0 : Nat) (a_1 : Int) (a_2 : List Block) : Option (Int × (List Block)) :=
  iterK (fun ((v1, v2, v3) : (Int × Int × (List Block))) (nx4 : (Int × Int × (List Block)) → Option _) =>
    getN v3 a_0 fun x5 =>
    if v2 < (x5.Pages.length : Int) then
      callK (p_laws_markText v1) fun y7 =>
      getK x5.Pages v2 fun x8 =>
      nx4 ((IntKind.i64.wrap (v1 + 1)), (IntKind.i64.wrap (v2 + 1)), (v3.set a_0 (⟨x5.Erases, x5.Next, x5.Bad, (x5.Pages.set (Int.toNat v2) y7)⟩ : Block)))
    else
      some (v1, v3)) NN (a_1, 0, a_2)

set_option maxHeartbeats 4000000 in
theorem L_laws_markStringS (a_0 : Nat) (a_1 : Int) (a_2 : List Block) {r : (Int × (List Block))} (h : p_laws_markStringS a_0 a_1 a_2 = some r) : callL E 193 [.ns 0 a_0 3, IN a_1] ([some (.nst ⟨91, 4, 3, 9, 1⟩ a_2.length (a_2.map rBlock))] : Fo) = some (IN r.1, ([some (.nst ⟨91, 4, 3, 9, 1⟩ r.2.length (r.2.map rBlock))] : Fo)) := by
  unfold p_laws_markStringS at h
  refine callW (fu := Try.f193) rfl rfl rfl NN ?_
  intro lp cl hlp hcl
  conv => lhs; whnf
  refine loop_iter hlp (fun ((v1, v2, v3) : (Int × Int × (List Block))) => ([.ns 0 a_0 3, IN v1, .dead, .dead, .dead, IN v2] ++ List.replicate 14 .dead : List V)) (fun ((v1, v2, v3) : (Int × Int × (List Block))) => ([some (.nst ⟨91, 4, 3, 9, 1⟩ v3.length (v3.map rBlock))] : Fo)) (fun (r : (Int × (List Block))) => ((IN r.1 : V), ([some (.nst ⟨91, 4, 3, 9, 1⟩ r.2.length (r.2.map rBlock))] : Fo))) ?_ (a_1, 0, a_2) _ (fun kk => by kernel_rfl) h
  clear h
  rintro next_nx4 nx4 hnx4 ⟨v1, v2, v3⟩ r h
  try dsimp only at h
  conv => lhs; whnf
  obtain ⟨x5, hx_x5', h⟩ := getN_inv h
  have hx_x5 := get_of (r := rBlock) hx_x5'
  conv => lhs; whnf
  conv => lhs; whnf
  rw [lenV_ns (r := 0) (i := a_0) (c := 3) ?hv ?hr hx_x5 ?hc]
  case hv => exact rfl
  case hr => exact rfl
  case hc => exact rfl
  conv => lhs; whnf
  try rw [len_of (l := x5.Pages) (r := rS)]
  cases hb6 : (decide (v2 < (x5.Pages.length : Int)))
  · replace h := ifF h (decF hb6); conv => lhs; whnf
    obtain rfl := Option.some.inj h; show _ = _; kernel_rfl

  · replace h := ifT h (decT hb6); conv => lhs; whnf
    obtain ⟨y7, h_y7, h⟩ := callK_inv h
    rw [cl_eq hcl (L_laws_markText v1 h_y7)]
    rotate_left
    · show _ = _; kernel_rfl
    · show _ = _; kernel_rfl
    conv => lhs; whnf
    rw [hx_x5]
    conv => lhs; whnf
    obtain ⟨x8, hq_x8, hx_x8', h⟩ := getK_inv h
    have hx_x8 := get_of (r := rS) hx_x8'
    try (rw [decide_eq_true hq_x8]; conv => lhs; whnf)
    rw [hx_x8]
    conv => lhs; whnf
    rw [hx_x5]
    conv => lhs; whnf
    rw [hx_x8]
    conv => lhs; whnf
    first | (rw [map_set_of (r := rS) (l := x5.Pages) (x := y7) ?hh]; case hh => exact rfl) | skip
    first | (rw [map_set_of (r := rBlock) (l := v3) (x := (⟨x5.Erases, x5.Next, x5.Bad, (x5.Pages.set (Int.toNat v2) y7)⟩ : Block)) ?hh]; case hh => exact rfl) | skip
    exact hnx4 _ _ _ _ (fun kk => by (try simp only [List.length_set, List.length_append, List.length_cons, List.length_nil, Nat.zero_add]); kernel_rfl) h

noncomputable def p_laws_markBlockS (a_0 : Int) (a_1 : List Block) : Option (Int × (List Block)) :=
  iterK (fun ((v1, v2, v3) : (Int × Int × (List Block))) (nx4 : (Int × Int × (List Block)) → Option _) =>
    if v2 < (v3.length : Int) then
      getK v3 v2 fun x6 =>
      getK (v3.set (Int.toNat v2) (⟨v1, x6.Next, x6.Bad, x6.Pages⟩ : Block)) v2 fun x7 =>
      getK ((v3.set (Int.toNat v2) (⟨v1, x6.Next, x6.Bad, x6.Pages⟩ : Block)).set (Int.toNat v2) (⟨x7.Erases, (IntKind.i64.wrap (v1 + 1)), x7.Bad, x7.Pages⟩ : Block)) v2 fun x8 =>
      getK (((v3.set (Int.toNat v2) (⟨v1, x6.Next, x6.Bad, x6.Pages⟩ : Block)).set (Int.toNat v2) (⟨x7.Erases, (IntKind.i64.wrap (v1 + 1)), x7.Bad, x7.Pages⟩ : Block)).set (Int.toNat v2) (⟨x8.Erases, x8.Next, ((Int.tmod (IntKind.i64.wrap ((IntKind.i64.wrap (v1 + 1)) + 1)) 3) == 0), x8.Pages⟩ : Block)) v2 fun x9 =>
      callK (p_laws_markStringS (Int.toNat v2) (IntKind.i64.wrap ((IntKind.i64.wrap ((IntKind.i64.wrap (v1 + 1)) + 1)) + 1)) (((v3.set (Int.toNat v2) (⟨v1, x6.Next, x6.Bad, x6.Pages⟩ : Block)).set (Int.toNat v2) (⟨x7.Erases, (IntKind.i64.wrap (v1 + 1)), x7.Bad, x7.Pages⟩ : Block)).set (Int.toNat v2) (⟨x8.Erases, x8.Next, ((Int.tmod (IntKind.i64.wrap ((IntKind.i64.wrap (v1 + 1)) + 1)) 3) == 0), x8.Pages⟩ : Block))) fun y10 =>
      nx4 (y10.1, (IntKind.i64.wrap (v2 + 1)), y10.2)
    else
      some (v1, v3)) NN (a_0, 0, a_1)

set_option maxHeartbeats 4000000 in
theorem L_laws_markBlockS (a_0 : Int) (a_1 : List Block) {r : (Int × (List Block))} (h : p_laws_markBlockS a_0 a_1 = some r) : callL E 109 [.nsl 0, IN a_0] ([some (.nst ⟨91, 4, 3, 9, 1⟩ a_1.length (a_1.map rBlock))] : Fo) = some (IN r.1, ([some (.nst ⟨91, 4, 3, 9, 1⟩ r.2.length (r.2.map rBlock))] : Fo)) := by
  unfold p_laws_markBlockS at h
  refine callW (fu := Try.f109) rfl rfl rfl NN ?_
  intro lp cl hlp hcl
  conv => lhs; whnf
  refine loop_iter hlp (fun ((v1, v2, v3) : (Int × Int × (List Block))) => ([.nsl 0, IN v1, .dead, .dead, .dead, IN v2] ++ List.replicate 37 .dead : List V)) (fun ((v1, v2, v3) : (Int × Int × (List Block))) => ([some (.nst ⟨91, 4, 3, 9, 1⟩ v3.length (v3.map rBlock))] : Fo)) (fun (r : (Int × (List Block))) => ((IN r.1 : V), ([some (.nst ⟨91, 4, 3, 9, 1⟩ r.2.length (r.2.map rBlock))] : Fo))) ?_ (a_0, 0, a_1) _ (fun kk => by kernel_rfl) h
  clear h
  rintro next_nx4 nx4 hnx4 ⟨v1, v2, v3⟩ r h
  try dsimp only at h
  conv => lhs; whnf
  try rw [len_of (l := v3) (r := rBlock)]
  cases hb5 : (decide (v2 < (v3.length : Int)))
  · replace h := ifF h (decF hb5); conv => lhs; whnf
    obtain rfl := Option.some.inj h; show _ = _; kernel_rfl

  · replace h := ifT h (decT hb5); conv => lhs; whnf
    obtain ⟨x6, hq_x6, hx_x6', h⟩ := getK_inv h
    have hx_x6 := get_of (r := rBlock) hx_x6'
    try (rw [decide_eq_true hq_x6]; conv => lhs; whnf)
    rw [hx_x6]
    conv => lhs; whnf
    rw [hx_x6]
    conv => lhs; whnf
    first | (rw [map_set_of (r := rBlock) (l := v3) (x := (⟨v1, x6.Next, x6.Bad, x6.Pages⟩ : Block)) ?hh]; case hh => exact rfl) | skip
    obtain ⟨x7, hq_x7, hx_x7', h⟩ := getK_inv h
    have hx_x7 := get_of (r := rBlock) hx_x7'
    try (rw [decide_eq_true hq_x7]; conv => lhs; whnf)
    rw [hx_x7]
    conv => lhs; whnf
    rw [hx_x7]
    conv => lhs; whnf
    first | (rw [map_set_of (r := rBlock) (l := (v3.set (Int.toNat v2) (⟨v1, x6.Next, x6.Bad, x6.Pages⟩ : Block))) (x := (⟨x7.Erases, (IntKind.i64.wrap (v1 + 1)), x7.Bad, x7.Pages⟩ : Block)) ?hh]; case hh => exact rfl) | skip
    try (rw [rem_run _ _ _ 3 (by decide)]; conv => lhs; whnf)
    conv => lhs; whnf
    obtain ⟨x8, hq_x8, hx_x8', h⟩ := getK_inv h
    have hx_x8 := get_of (r := rBlock) hx_x8'
    try (rw [decide_eq_true hq_x8]; conv => lhs; whnf)
    rw [hx_x8]
    conv => lhs; whnf
    rw [hx_x8]
    conv => lhs; whnf
    first | (rw [map_set_of (r := rBlock) (l := ((v3.set (Int.toNat v2) (⟨v1, x6.Next, x6.Bad, x6.Pages⟩ : Block)).set (Int.toNat v2) (⟨x7.Erases, (IntKind.i64.wrap (v1 + 1)), x7.Bad, x7.Pages⟩ : Block))) (x := (⟨x8.Erases, x8.Next, ((Int.tmod (IntKind.i64.wrap ((IntKind.i64.wrap (v1 + 1)) + 1)) 3) == 0), x8.Pages⟩ : Block)) ?hh]; case hh => exact rfl) | skip
    obtain ⟨x9, hq_x9, hx_x9', h⟩ := getK_inv h
    have hx_x9 := get_of (r := rBlock) hx_x9'
    try (rw [decide_eq_true hq_x9]; conv => lhs; whnf)
    rw [hx_x9]
    conv => lhs; whnf
    rw [hx_x9]
    conv => lhs; whnf
    conv => lhs; whnf
    try (rw [blt_of_len (n := v3.length) hx_x9 (by simp only [List.length_set, List.length_append, List.length_cons, List.length_nil, Nat.zero_add])]; conv => lhs; whnf)
    obtain ⟨y10, h_y10, h⟩ := callK_inv h
    rw [cl_eq hcl (L_laws_markStringS (Int.toNat v2) (IntKind.i64.wrap ((IntKind.i64.wrap ((IntKind.i64.wrap (v1 + 1)) + 1)) + 1)) (((v3.set (Int.toNat v2) (⟨v1, x6.Next, x6.Bad, x6.Pages⟩ : Block)).set (Int.toNat v2) (⟨x7.Erases, (IntKind.i64.wrap (v1 + 1)), x7.Bad, x7.Pages⟩ : Block)).set (Int.toNat v2) (⟨x8.Erases, x8.Next, ((Int.tmod (IntKind.i64.wrap ((IntKind.i64.wrap (v1 + 1)) + 1)) 3) == 0), x8.Pages⟩ : Block)) h_y10)]
    rotate_left
    · show _ = _; kernel_rfl
    · (try simp only [List.length_set, List.length_append, List.length_cons, List.length_nil, Nat.zero_add]); kernel_rfl
    conv => lhs; whnf
    exact hnx4 _ _ _ _ (fun kk => by kernel_rfl) h

noncomputable def p_laws_markFlash (a_0 : Int) (a_1 : Int) (a_2 : Int) (a_3 : Int) (a_4 : Int) (a_5 : Bool) (a_6 : Int) (a_7 : Int) (a_8 : List Block) : Option (Int × (List Block)) :=
  callK (p_laws_markBlockS a_7 a_8) fun y1 =>
  some (y1.1, y1.2)

set_option maxHeartbeats 4000000 in
theorem L_laws_markFlash (a_0 : Int) (a_1 : Int) (a_2 : Int) (a_3 : Int) (a_4 : Int) (a_5 : Bool) (a_6 : Int) (a_7 : Int) (a_8 : List Block) {r : (Int × (List Block))} (h : p_laws_markFlash a_0 a_1 a_2 a_3 a_4 a_5 a_6 a_7 a_8 = some r) : callL E 33 [.agg [IN a_0, IN a_1, IN a_2, .nsl 0, IN a_3, IN a_4, BO a_5, IN a_6], IN a_7] ([some (.nst ⟨91, 4, 3, 9, 1⟩ a_8.length (a_8.map rBlock))] : Fo) = some (IN r.1, ([some (.nst ⟨91, 4, 3, 9, 1⟩ r.2.length (r.2.map rBlock))] : Fo)) := by
  unfold p_laws_markFlash at h
  refine callW (fu := Try.f33) rfl rfl rfl NN ?_
  intro lp cl hlp hcl
  conv => lhs; whnf
  obtain ⟨y1, h_y1, h⟩ := callK_inv h
  rw [cl_eq hcl (L_laws_markBlockS a_7 a_8 h_y1)]
  rotate_left
  · show _ = _; kernel_rfl
  · show _ = _; kernel_rfl
  conv => lhs; whnf
  obtain rfl := Option.some.inj h; show _ = _; kernel_rfl


noncomputable def p_laws_markFaultS (a_0 : Int) (a_1 : List Fault) : Option (Int × (List Fault)) :=
  iterK (fun ((v1, v2, v3) : (Int × Int × (List Fault))) (nx4 : (Int × Int × (List Fault)) → Option _) =>
    if v2 < (v3.length : Int) then
      getK v3 v2 fun x6 =>
      getK (v3.set (Int.toNat v2) (⟨v1, x6.Block, x6.Page, x6.Bit⟩ : Fault)) v2 fun x7 =>
      getK ((v3.set (Int.toNat v2) (⟨v1, x6.Block, x6.Page, x6.Bit⟩ : Fault)).set (Int.toNat v2) (⟨x7.Kind, (IntKind.i64.wrap (v1 + 1)), x7.Page, x7.Bit⟩ : Fault)) v2 fun x8 =>
      getK (((v3.set (Int.toNat v2) (⟨v1, x6.Block, x6.Page, x6.Bit⟩ : Fault)).set (Int.toNat v2) (⟨x7.Kind, (IntKind.i64.wrap (v1 + 1)), x7.Page, x7.Bit⟩ : Fault)).set (Int.toNat v2) (⟨x8.Kind, x8.Block, (IntKind.i64.wrap ((IntKind.i64.wrap (v1 + 1)) + 1)), x8.Bit⟩ : Fault)) v2 fun x9 =>
      nx4 ((IntKind.i64.wrap ((IntKind.i64.wrap ((IntKind.i64.wrap ((IntKind.i64.wrap (v1 + 1)) + 1)) + 1)) + 1)), (IntKind.i64.wrap (v2 + 1)), ((((v3.set (Int.toNat v2) (⟨v1, x6.Block, x6.Page, x6.Bit⟩ : Fault)).set (Int.toNat v2) (⟨x7.Kind, (IntKind.i64.wrap (v1 + 1)), x7.Page, x7.Bit⟩ : Fault)).set (Int.toNat v2) (⟨x8.Kind, x8.Block, (IntKind.i64.wrap ((IntKind.i64.wrap (v1 + 1)) + 1)), x8.Bit⟩ : Fault)).set (Int.toNat v2) (⟨x9.Kind, x9.Block, x9.Page, (IntKind.i64.wrap ((IntKind.i64.wrap ((IntKind.i64.wrap (v1 + 1)) + 1)) + 1))⟩ : Fault)))
    else
      some (v1, v3)) NN (a_0, 0, a_1)

set_option maxHeartbeats 4000000 in
theorem L_laws_markFaultS (a_0 : Int) (a_1 : List Fault) {r : (Int × (List Fault))} (h : p_laws_markFaultS a_0 a_1 = some r) : callL E 40 [.sl 0, IN a_0] ([some (.arr 54 4 (a_1.map rFault))] : Fo) = some (IN r.1, ([some (.arr 54 4 (r.2.map rFault))] : Fo)) := by
  unfold p_laws_markFaultS at h
  refine callW (fu := Try.f40) rfl rfl rfl NN ?_
  intro lp cl hlp hcl
  conv => lhs; whnf
  refine loop_iter hlp (fun ((v1, v2, v3) : (Int × Int × (List Fault))) => ([.sl 0, IN v1, .dead, .dead, .dead, IN v2] ++ List.replicate 35 .dead : List V)) (fun ((v1, v2, v3) : (Int × Int × (List Fault))) => ([some (.arr 54 4 (v3.map rFault))] : Fo)) (fun (r : (Int × (List Fault))) => ((IN r.1 : V), ([some (.arr 54 4 (r.2.map rFault))] : Fo))) ?_ (a_0, 0, a_1) _ (fun kk => by kernel_rfl) h
  clear h
  rintro next_nx4 nx4 hnx4 ⟨v1, v2, v3⟩ r h
  try dsimp only at h
  conv => lhs; whnf
  try rw [len_of (l := v3) (r := rFault)]
  cases hb5 : (decide (v2 < (v3.length : Int)))
  · replace h := ifF h (decF hb5); conv => lhs; whnf
    obtain rfl := Option.some.inj h; show _ = _; kernel_rfl

  · replace h := ifT h (decT hb5); conv => lhs; whnf
    obtain ⟨x6, hq_x6, hx_x6', h⟩ := getK_inv h
    have hx_x6 := get_of (r := rFault) hx_x6'
    try (rw [decide_eq_true hq_x6]; conv => lhs; whnf)
    rw [hx_x6]
    conv => lhs; whnf
    rw [hx_x6]
    conv => lhs; whnf
    first | (rw [map_set_of (r := rFault) (l := v3) (x := (⟨v1, x6.Block, x6.Page, x6.Bit⟩ : Fault)) ?hh]; case hh => exact rfl) | skip
    obtain ⟨x7, hq_x7, hx_x7', h⟩ := getK_inv h
    have hx_x7 := get_of (r := rFault) hx_x7'
    try (rw [decide_eq_true hq_x7]; conv => lhs; whnf)
    rw [hx_x7]
    conv => lhs; whnf
    rw [hx_x7]
    conv => lhs; whnf
    first | (rw [map_set_of (r := rFault) (l := (v3.set (Int.toNat v2) (⟨v1, x6.Block, x6.Page, x6.Bit⟩ : Fault))) (x := (⟨x7.Kind, (IntKind.i64.wrap (v1 + 1)), x7.Page, x7.Bit⟩ : Fault)) ?hh]; case hh => exact rfl) | skip
    obtain ⟨x8, hq_x8, hx_x8', h⟩ := getK_inv h
    have hx_x8 := get_of (r := rFault) hx_x8'
    try (rw [decide_eq_true hq_x8]; conv => lhs; whnf)
    rw [hx_x8]
    conv => lhs; whnf
    rw [hx_x8]
    conv => lhs; whnf
    first | (rw [map_set_of (r := rFault) (l := ((v3.set (Int.toNat v2) (⟨v1, x6.Block, x6.Page, x6.Bit⟩ : Fault)).set (Int.toNat v2) (⟨x7.Kind, (IntKind.i64.wrap (v1 + 1)), x7.Page, x7.Bit⟩ : Fault))) (x := (⟨x8.Kind, x8.Block, (IntKind.i64.wrap ((IntKind.i64.wrap (v1 + 1)) + 1)), x8.Bit⟩ : Fault)) ?hh]; case hh => exact rfl) | skip
    obtain ⟨x9, hq_x9, hx_x9', h⟩ := getK_inv h
    have hx_x9 := get_of (r := rFault) hx_x9'
    try (rw [decide_eq_true hq_x9]; conv => lhs; whnf)
    rw [hx_x9]
    conv => lhs; whnf
    rw [hx_x9]
    conv => lhs; whnf
    first | (rw [map_set_of (r := rFault) (l := (((v3.set (Int.toNat v2) (⟨v1, x6.Block, x6.Page, x6.Bit⟩ : Fault)).set (Int.toNat v2) (⟨x7.Kind, (IntKind.i64.wrap (v1 + 1)), x7.Page, x7.Bit⟩ : Fault)).set (Int.toNat v2) (⟨x8.Kind, x8.Block, (IntKind.i64.wrap ((IntKind.i64.wrap (v1 + 1)) + 1)), x8.Bit⟩ : Fault))) (x := (⟨x9.Kind, x9.Block, x9.Page, (IntKind.i64.wrap ((IntKind.i64.wrap ((IntKind.i64.wrap (v1 + 1)) + 1)) + 1))⟩ : Fault)) ?hh]; case hh => exact rfl) | skip
    exact hnx4 _ _ _ _ (fun kk => by kernel_rfl) h

noncomputable def p_laws_heldStringS (a_0 : List ByteArray) (a_1 : Int) : Option Int :=
  grd (a_0.length < 4611686018427387904) <|
  forK a_0 (fun (i7 : Nat) x10 (v8 : Int) (nx9 : Int → Option _) =>
    callK (p_laws_markText v8) fun y11 =>
    if (x10.toList == y11.toList) = true then
      nx9 (IntKind.i64.wrap (v8 + 1))
    else
      some (-1)) a_1 (fun (v8 : Int) =>
    some v8)

set_option maxHeartbeats 4000000 in
theorem L_laws_heldStringS (a_0 : List ByteArray) (a_1 : Int) {r : Int} (h : p_laws_heldStringS a_0 a_1 = some r) : callL E 194 [.d (.arr (a_0.map rS)), IN a_1] ([] : Fo) = some (IN r, ([] : Fo)) := by
  unfold p_laws_heldStringS at h
  refine callW (fu := Try.f194) rfl rfl rfl NN ?_
  intro lp cl hlp hcl
  conv => lhs; whnf
  obtain ⟨hl_i7, h⟩ := grd_inv h
  refine loop_for hlp (l := a_0) hl_i7 (fun (i7 : Nat) (v8 : Int) => ([.d (.arr (a_0.map rS)), IN v8, .dead, .dead, .dead, IN (i7 : Int)] ++ List.replicate 16 .dead : List V)) (fun (i7 : Nat) (v8 : Int) => ([] : Fo)) (fun (r : Int) => ((IN r : V), ([] : Fo))) ?_ ?_ a_1 _ (fun kk => by kernel_rfl) h
  · clear h
    rintro next_nx9 nx9 i7 hi_i7 hnx9 v8 r h
    try dsimp only at h
    have hn_i7 : i7 < 4611686018427387904 := by omega
    have hx_x10 := get_map rS a_0 i7 hi_i7
    generalize a_0[i7] = x10 at h hx_x10
    have hd_i7 : (decide ((i7 : Int) < (a_0.length : Int))) = true := decide_eq_true (by omega)
    conv => lhs; whnf
    try rw [len_of (l := a_0) (r := rS)]
    rw [hd_i7]
    conv => lhs; whnf
    try (rw [decide_eq_true hq_x10]; conv => lhs; whnf)
    rw [hx_x10]
    conv => lhs; whnf
    rw [hx_x10]
    conv => lhs; whnf
    obtain ⟨y11, h_y11, h⟩ := callK_inv h
    rw [cl_eq hcl (L_laws_markText v8 h_y11)]
    rotate_left
    · show _ = _; kernel_rfl
    · show _ = _; kernel_rfl
    conv => lhs; whnf
    cases hb12 : (x10.toList == y11.toList)
    · replace h := ifF h (booF hb12); conv => lhs; whnf
      obtain rfl := Option.some.inj h; show _ = _; kernel_rfl

    · replace h := ifT h hb12; conv => lhs; whnf
      rw [wrap_nat i7 (by have := hn_i7; omega)]
      exact hnx9 _ _ _ _ (fun kk => by kernel_rfl) h
  · clear h
    rintro next_nx9 v8 r h
    try dsimp only at h
    have hd_i7 : (decide ((a_0.length : Int) < (a_0.length : Int))) = false := decide_eq_false (by omega)
    conv => lhs; whnf
    try rw [len_of (l := a_0) (r := rS)]
    rw [hd_i7]
    conv => lhs; whnf
    obtain rfl := Option.some.inj h; show _ = _; kernel_rfl


noncomputable def p_laws_heldBlockS (a_0 : List Block) (a_1 : Int) : Option Int :=
  grd (a_0.length < 4611686018427387904) <|
  forK a_0 (fun (i10 : Nat) x13 (v11 : Int) (nx12 : Int → Option _) =>
    if ¬ x13.Erases = v11 then
      some (-1)
    else
      if ¬ x13.Next = (IntKind.i64.wrap (v11 + 1)) then
        some (-1)
      else
        if (x13.Bad == ((Int.tmod (IntKind.i64.wrap ((IntKind.i64.wrap (v11 + 1)) + 1)) 3) == 0)) = true then
          callK (p_laws_heldStringS x13.Pages (IntKind.i64.wrap ((IntKind.i64.wrap ((IntKind.i64.wrap (v11 + 1)) + 1)) + 1))) fun y17 =>
          if y17 < 0 then
            some (-1)
          else
            nx12 y17
        else
          some (-1)) a_1 (fun (v11 : Int) =>
    some v11)

set_option maxHeartbeats 4000000 in
theorem L_laws_heldBlockS (a_0 : List Block) (a_1 : Int) {r : Int} (h : p_laws_heldBlockS a_0 a_1 = some r) : callL E 110 [.d (.arr (a_0.map rBlock)), IN a_1] ([] : Fo) = some (IN r, ([] : Fo)) := by
  unfold p_laws_heldBlockS at h
  refine callW (fu := Try.f110) rfl rfl rfl NN ?_
  intro lp cl hlp hcl
  conv => lhs; whnf
  obtain ⟨hl_i10, h⟩ := grd_inv h
  refine loop_for hlp (l := a_0) hl_i10 (fun (i10 : Nat) (v11 : Int) => ([.d (.arr (a_0.map rBlock)), IN v11, .dead, .dead, .dead, IN (i10 : Int)] ++ List.replicate 45 .dead : List V)) (fun (i10 : Nat) (v11 : Int) => ([] : Fo)) (fun (r : Int) => ((IN r : V), ([] : Fo))) ?_ ?_ a_1 _ (fun kk => by kernel_rfl) h
  · clear h
    rintro next_nx12 nx12 i10 hi_i10 hnx12 v11 r h
    try dsimp only at h
    have hn_i10 : i10 < 4611686018427387904 := by omega
    have hx_x13 := get_map rBlock a_0 i10 hi_i10
    generalize a_0[i10] = x13 at h hx_x13
    have hd_i10 : (decide ((i10 : Int) < (a_0.length : Int))) = true := decide_eq_true (by omega)
    conv => lhs; whnf
    try rw [len_of (l := a_0) (r := rBlock)]
    rw [hd_i10]
    conv => lhs; whnf
    try (rw [decide_eq_true hq_x13]; conv => lhs; whnf)
    rw [hx_x13]
    conv => lhs; whnf
    rw [hx_x13]
    conv => lhs; whnf
    cases hb14 : (x13.Erases != v11)
    · replace h := ifF h ((fun h => not_not_intro (bneF h)) hb14); conv => lhs; whnf
      try (rw [decide_eq_true hq_x13]; conv => lhs; whnf)
      rw [hx_x13]
      conv => lhs; whnf
      rw [hx_x13]
      conv => lhs; whnf
      cases hb15 : (x13.Next != (IntKind.i64.wrap (v11 + 1)))
      · replace h := ifF h ((fun h => not_not_intro (bneF h)) hb15); conv => lhs; whnf
        try (rw [decide_eq_true hq_x13]; conv => lhs; whnf)
        rw [hx_x13]
        conv => lhs; whnf
        rw [hx_x13]
        conv => lhs; whnf
        try (rw [rem_run _ _ _ 3 (by decide)]; conv => lhs; whnf)
        conv => lhs; whnf
        cases hb16 : (x13.Bad == ((Int.tmod (IntKind.i64.wrap ((IntKind.i64.wrap (v11 + 1)) + 1)) 3) == 0))
        · replace h := ifF h (booF hb16); conv => lhs; whnf
          obtain rfl := Option.some.inj h; show _ = _; kernel_rfl

        · replace h := ifT h hb16; conv => lhs; whnf
          try (rw [decide_eq_true hq_x13]; conv => lhs; whnf)
          rw [hx_x13]
          conv => lhs; whnf
          rw [hx_x13]
          conv => lhs; whnf
          obtain ⟨y17, h_y17, h⟩ := callK_inv h
          rw [cl_eq hcl (L_laws_heldStringS x13.Pages (IntKind.i64.wrap ((IntKind.i64.wrap ((IntKind.i64.wrap (v11 + 1)) + 1)) + 1)) h_y17)]
          rotate_left
          · show _ = _; kernel_rfl
          · show _ = _; kernel_rfl
          conv => lhs; whnf
          cases hb18 : (decide (y17 < 0))
          · replace h := ifF h (decF hb18); conv => lhs; whnf
            rw [wrap_nat i10 (by have := hn_i10; omega)]
            exact hnx12 _ _ _ _ (fun kk => by kernel_rfl) h
          · replace h := ifT h (decT hb18); conv => lhs; whnf
            obtain rfl := Option.some.inj h; show _ = _; kernel_rfl

      · replace h := ifT h (bneT hb15); conv => lhs; whnf
        obtain rfl := Option.some.inj h; show _ = _; kernel_rfl

    · replace h := ifT h (bneT hb14); conv => lhs; whnf
      obtain rfl := Option.some.inj h; show _ = _; kernel_rfl

  · clear h
    rintro next_nx12 v11 r h
    try dsimp only at h
    have hd_i10 : (decide ((a_0.length : Int) < (a_0.length : Int))) = false := decide_eq_false (by omega)
    conv => lhs; whnf
    try rw [len_of (l := a_0) (r := rBlock)]
    rw [hd_i10]
    conv => lhs; whnf
    obtain rfl := Option.some.inj h; show _ = _; kernel_rfl


noncomputable def p_laws_heldFlash (a_0 : Flash) (a_1 : Int) : Option Int :=
  callK (p_laws_heldBlockS a_0.Blocks a_1) fun y1 =>
  if y1 < 0 then
    some (-1)
  else
    some y1

set_option maxHeartbeats 4000000 in
theorem L_laws_heldFlash (a_0 : Flash) (a_1 : Int) {r : Int} (h : p_laws_heldFlash a_0 a_1 = some r) : callL E 34 [.agg [IN a_0.Geo.Dies, IN a_0.Geo.Blocks, IN a_0.Geo.Pages, .d (.arr (a_0.Blocks.map rBlock)), IN a_0.Fuse, IN a_0.Keep, BO a_0.Off, IN a_0.Ops], IN a_1] ([] : Fo) = some (IN r, ([] : Fo)) := by
  unfold p_laws_heldFlash at h
  refine callW (fu := Try.f34) rfl rfl rfl NN ?_
  intro lp cl hlp hcl
  conv => lhs; whnf
  obtain ⟨y1, h_y1, h⟩ := callK_inv h
  rw [cl_eq hcl (L_laws_heldBlockS a_0.Blocks a_1 h_y1)]
  rotate_left
  · show _ = _; kernel_rfl
  · show _ = _; kernel_rfl
  conv => lhs; whnf
  cases hb2 : (decide (y1 < 0))
  · replace h := ifF h (decF hb2); conv => lhs; whnf
    obtain rfl := Option.some.inj h; show _ = _; kernel_rfl

  · replace h := ifT h (decT hb2); conv => lhs; whnf
    obtain rfl := Option.some.inj h; show _ = _; kernel_rfl


noncomputable def p_laws_FnExactApplyFaults (a_0 : Flash) (a_1 : List Fault) : Option Bool :=
  callK (p_laws_szFlash a_0 1048576) fun y1 =>
  if y1 < 0 then
    some true
  else
    callK (p_laws_szFaultS a_1 y1) fun y3 =>
    if y3 < 0 then
      some true
    else
      callK (p_laws_toFlash a_0) fun y5 =>
      callK (p_laws_toFaultS a_1) fun y6 =>
      callK (p_spec_ApplyFaults a_0.Geo.Dies a_0.Geo.Blocks a_0.Geo.Pages a_0.Fuse a_0.Keep a_0.Off a_0.Ops y5 y6) fun y7 =>
      callK (p_laws_toFlash a_0) fun y8 =>
      callK (p_laws_toFaultS a_1) fun y9 =>
      callK (p_impl_ApplyFaults a_0.Geo.Dies a_0.Geo.Blocks a_0.Geo.Pages a_0.Fuse a_0.Keep a_0.Off a_0.Ops y8 y9) fun y10 =>
      callK (p_laws_eqFlash (⟨⟨y10.1, y10.2.1, y10.2.2.1⟩, y10.2.2.2.2.2.2.2.2, y10.2.2.2.1, y10.2.2.2.2.1, y10.2.2.2.2.2.1, y10.2.2.2.2.2.2.1⟩ : Flash) y7.1) fun y11 =>
      if y11 = true then
        if ¬ y10.2.2.2.2.2.2.2.1 = y7.2 then
          some false
        else
          callK (p_laws_toFlash a_0) fun y14 =>
          callK (p_laws_eqFlash (⟨a_0.Geo, y8, a_0.Fuse, a_0.Keep, a_0.Off, a_0.Ops⟩ : Flash) (⟨a_0.Geo, y14, a_0.Fuse, a_0.Keep, a_0.Off, a_0.Ops⟩ : Flash)) fun y15 =>
          if y15 = true then
            callK (p_laws_toFaultS a_1) fun y17 =>
            callK (p_laws_eqFaultS y9 y17) fun y18 =>
            if y18 = true then
              callK (p_laws_markFlash a_0.Geo.Dies a_0.Geo.Blocks a_0.Geo.Pages a_0.Fuse a_0.Keep a_0.Off a_0.Ops 1 y8) fun y20 =>
              callK (p_laws_markFaultS y20.1 y9) fun y21 =>
              if y21.1 < 0 then
                some false
              else
                callK (p_laws_eqFlash (⟨⟨y10.1, y10.2.1, y10.2.2.1⟩, y10.2.2.2.2.2.2.2.2, y10.2.2.2.1, y10.2.2.2.2.1, y10.2.2.2.2.2.1, y10.2.2.2.2.2.2.1⟩ : Flash) y7.1) fun y23 =>
                if y23 = true then
                  callK (p_laws_markFlash y10.1 y10.2.1 y10.2.2.1 y10.2.2.2.1 y10.2.2.2.2.1 y10.2.2.2.2.2.1 y10.2.2.2.2.2.2.1 1 y10.2.2.2.2.2.2.2.2) fun y25 =>
                  callK (p_laws_heldFlash (⟨⟨y10.1, y10.2.1, y10.2.2.1⟩, y25.2, y10.2.2.2.1, y10.2.2.2.2.1, y10.2.2.2.2.2.1, y10.2.2.2.2.2.2.1⟩ : Flash) 1) fun y26 =>
                  if y26 < 0 then
                    some false
                  else
                    if ¬ y26 = y25.1 then
                      some false
                    else
                      callK (p_laws_toFlash a_0) fun y29 =>
                      callK (p_laws_toFaultS a_1) fun y30 =>
                      callK (p_impl_ApplyFaults a_0.Geo.Dies a_0.Geo.Blocks a_0.Geo.Pages a_0.Fuse a_0.Keep a_0.Off a_0.Ops y29 y30) fun y31 =>
                      callK (p_laws_eqFlash (⟨⟨y31.1, y31.2.1, y31.2.2.1⟩, y31.2.2.2.2.2.2.2.2, y31.2.2.2.1, y31.2.2.2.2.1, y31.2.2.2.2.2.1, y31.2.2.2.2.2.2.1⟩ : Flash) y7.1) fun y32 =>
                      if y32 = true then
                        if ¬ y31.2.2.2.2.2.2.2.1 = y7.2 then
                          some false
                        else
                          callK (p_laws_heldFlash (⟨⟨y10.1, y10.2.1, y10.2.2.1⟩, y25.2, y10.2.2.2.1, y10.2.2.2.2.1, y10.2.2.2.2.2.1, y10.2.2.2.2.2.2.1⟩ : Flash) 1) fun y35 =>
                          if y35 < 0 then
                            some false
                          else
                            if ¬ y35 = y25.1 then
                              some false
                            else
                              some true
                      else
                        some false
                else
                  some false
            else
              some false
          else
            some false
      else
        some false

set_option maxHeartbeats 4000000 in
theorem L_laws_FnExactApplyFaults (a_0 : Flash) (a_1 : List Fault) {r : Bool} (h : p_laws_FnExactApplyFaults a_0 a_1 = some r) : callL E 5 [.agg [IN a_0.Geo.Dies, IN a_0.Geo.Blocks, IN a_0.Geo.Pages, .d (.arr (a_0.Blocks.map rBlock)), IN a_0.Fuse, IN a_0.Keep, BO a_0.Off, IN a_0.Ops], .d (.arr (a_1.map rFault))] ([] : Fo) = some (BO r, ([] : Fo)) := by
  unfold p_laws_FnExactApplyFaults at h
  refine callW (fu := Try.f5) rfl rfl rfl NN ?_
  intro lp cl hlp hcl
  conv => lhs; whnf
  obtain ⟨y1, h_y1, h⟩ := callK_inv h
  rw [cl_eq hcl (L_laws_szFlash a_0 1048576 h_y1)]
  rotate_left
  · show _ = _; kernel_rfl
  · show _ = _; kernel_rfl
  conv => lhs; whnf
  cases hb2 : (decide (y1 < 0))
  · replace h := ifF h (decF hb2); conv => lhs; whnf
    obtain ⟨y3, h_y3, h⟩ := callK_inv h
    rw [cl_eq hcl (L_laws_szFaultS a_1 y1 h_y3)]
    rotate_left
    · show _ = _; kernel_rfl
    · show _ = _; kernel_rfl
    conv => lhs; whnf
    cases hb4 : (decide (y3 < 0))
    · replace h := ifF h (decF hb4); conv => lhs; whnf
      obtain ⟨y5, h_y5, h⟩ := callK_inv h
      rw [cl_eq hcl (L_laws_toFlash a_0 h_y5)]
      rotate_left
      · show _ = _; kernel_rfl
      · show _ = _; kernel_rfl
      conv => lhs; whnf
      obtain ⟨y6, h_y6, h⟩ := callK_inv h
      rw [cl_eq hcl (L_laws_toFaultS a_1 h_y6)]
      rotate_left
      · show _ = _; kernel_rfl
      · show _ = _; kernel_rfl
      conv => lhs; whnf
      obtain ⟨y7, h_y7, h⟩ := callK_inv h
      rw [cl_eq hcl (L_spec_ApplyFaults a_0.Geo.Dies a_0.Geo.Blocks a_0.Geo.Pages a_0.Fuse a_0.Keep a_0.Off a_0.Ops y5 y6 h_y7)]
      rotate_left
      · show _ = _; kernel_rfl
      · show _ = _; kernel_rfl
      conv => lhs; whnf
      obtain ⟨y8, h_y8, h⟩ := callK_inv h
      rw [cl_eq hcl (L_laws_toFlash a_0 h_y8)]
      rotate_left
      · show _ = _; kernel_rfl
      · show _ = _; kernel_rfl
      conv => lhs; whnf
      obtain ⟨y9, h_y9, h⟩ := callK_inv h
      rw [cl_eq hcl (L_laws_toFaultS a_1 h_y9)]
      rotate_left
      · show _ = _; kernel_rfl
      · show _ = _; kernel_rfl
      conv => lhs; whnf
      obtain ⟨y10, h_y10, h⟩ := callK_inv h
      rw [cl_eq hcl (L_impl_ApplyFaults a_0.Geo.Dies a_0.Geo.Blocks a_0.Geo.Pages a_0.Fuse a_0.Keep a_0.Off a_0.Ops y8 y9 h_y10)]
      rotate_left
      · show _ = _; kernel_rfl
      · show _ = _; kernel_rfl
      conv => lhs; whnf
      obtain ⟨y11, h_y11, h⟩ := callK_inv h
      rw [cl_eq hcl (L_laws_eqFlash (⟨⟨y10.1, y10.2.1, y10.2.2.1⟩, y10.2.2.2.2.2.2.2.2, y10.2.2.2.1, y10.2.2.2.2.1, y10.2.2.2.2.2.1, y10.2.2.2.2.2.2.1⟩ : Flash) y7.1 h_y11)]
      rotate_left
      · show _ = _; kernel_rfl
      · show _ = _; kernel_rfl
      conv => lhs; whnf
      cases hb12 : y11
      · replace h := ifF h (booF hb12); conv => lhs; whnf
        try (rw [hb12]; conv => lhs; whnf)
        try (rw [hb12]; conv => lhs; whnf)
        try (rw [hb12]; conv => lhs; whnf)
        obtain rfl := Option.some.inj h; show _ = _; kernel_rfl

      · replace h := ifT h hb12; conv => lhs; whnf
        try (rw [hb12]; conv => lhs; whnf)
        try (rw [hb12]; conv => lhs; whnf)
        try (rw [hb12]; conv => lhs; whnf)
        cases hb13 : (y10.2.2.2.2.2.2.2.1 != y7.2)
        · replace h := ifF h ((fun h => not_not_intro (bneF h)) hb13); conv => lhs; whnf
          obtain ⟨y14, h_y14, h⟩ := callK_inv h
          rw [cl_eq hcl (L_laws_toFlash a_0 h_y14)]
          rotate_left
          · show _ = _; kernel_rfl
          · show _ = _; kernel_rfl
          conv => lhs; whnf
          obtain ⟨y15, h_y15, h⟩ := callK_inv h
          rw [cl_eq hcl (L_laws_eqFlash (⟨a_0.Geo, y8, a_0.Fuse, a_0.Keep, a_0.Off, a_0.Ops⟩ : Flash) (⟨a_0.Geo, y14, a_0.Fuse, a_0.Keep, a_0.Off, a_0.Ops⟩ : Flash) h_y15)]
          rotate_left
          · show _ = _; kernel_rfl
          · show _ = _; kernel_rfl
          conv => lhs; whnf
          cases hb16 : y15
          · replace h := ifF h (booF hb16); conv => lhs; whnf
            obtain rfl := Option.some.inj h; show _ = _; kernel_rfl

          · replace h := ifT h hb16; conv => lhs; whnf
            obtain ⟨y17, h_y17, h⟩ := callK_inv h
            rw [cl_eq hcl (L_laws_toFaultS a_1 h_y17)]
            rotate_left
            · show _ = _; kernel_rfl
            · show _ = _; kernel_rfl
            conv => lhs; whnf
            obtain ⟨y18, h_y18, h⟩ := callK_inv h
            rw [cl_eq hcl (L_laws_eqFaultS y9 y17 h_y18)]
            rotate_left
            · show _ = _; kernel_rfl
            · show _ = _; kernel_rfl
            conv => lhs; whnf
            cases hb19 : y18
            · replace h := ifF h (booF hb19); conv => lhs; whnf
              obtain rfl := Option.some.inj h; show _ = _; kernel_rfl

            · replace h := ifT h hb19; conv => lhs; whnf
              obtain ⟨y20, h_y20, h⟩ := callK_inv h
              rw [cl_eq hcl (L_laws_markFlash a_0.Geo.Dies a_0.Geo.Blocks a_0.Geo.Pages a_0.Fuse a_0.Keep a_0.Off a_0.Ops 1 y8 h_y20)]
              rotate_left
              · show _ = _; kernel_rfl
              · show _ = _; kernel_rfl
              conv => lhs; whnf
              obtain ⟨y21, h_y21, h⟩ := callK_inv h
              rw [cl_eq hcl (L_laws_markFaultS y20.1 y9 h_y21)]
              rotate_left
              · show _ = _; kernel_rfl
              · show _ = _; kernel_rfl
              conv => lhs; whnf
              cases hb22 : (decide (y21.1 < 0))
              · replace h := ifF h (decF hb22); conv => lhs; whnf
                try (rw [hb22]; conv => lhs; whnf)
                try (rw [hb22]; conv => lhs; whnf)
                obtain ⟨y23, h_y23, h⟩ := callK_inv h
                rw [cl_eq hcl (L_laws_eqFlash (⟨⟨y10.1, y10.2.1, y10.2.2.1⟩, y10.2.2.2.2.2.2.2.2, y10.2.2.2.1, y10.2.2.2.2.1, y10.2.2.2.2.2.1, y10.2.2.2.2.2.2.1⟩ : Flash) y7.1 h_y23)]
                rotate_left
                · show _ = _; kernel_rfl
                · show _ = _; kernel_rfl
                conv => lhs; whnf
                try (rw [hb22]; conv => lhs; whnf)
                try (rw [hb22]; conv => lhs; whnf)
                cases hb24 : y23
                · replace h := ifF h (booF hb24); conv => lhs; whnf
                  try (rw [hb24]; conv => lhs; whnf)
                  try (rw [hb24]; conv => lhs; whnf)
                  try (rw [hb24]; conv => lhs; whnf)
                  obtain rfl := Option.some.inj h; show _ = _; kernel_rfl

                · replace h := ifT h hb24; conv => lhs; whnf
                  try (rw [hb24]; conv => lhs; whnf)
                  try (rw [hb24]; conv => lhs; whnf)
                  try (rw [hb24]; conv => lhs; whnf)
                  try (rw [hb13]; conv => lhs; whnf)
                  obtain ⟨y25, h_y25, h⟩ := callK_inv h
                  rw [cl_eq hcl (L_laws_markFlash y10.1 y10.2.1 y10.2.2.1 y10.2.2.2.1 y10.2.2.2.2.1 y10.2.2.2.2.2.1 y10.2.2.2.2.2.2.1 1 y10.2.2.2.2.2.2.2.2 h_y25)]
                  rotate_left
                  · show _ = _; kernel_rfl
                  · show _ = _; kernel_rfl
                  conv => lhs; whnf
                  obtain ⟨y26, h_y26, h⟩ := callK_inv h
                  rw [cl_eq hcl (L_laws_heldFlash (⟨⟨y10.1, y10.2.1, y10.2.2.1⟩, y25.2, y10.2.2.2.1, y10.2.2.2.2.1, y10.2.2.2.2.2.1, y10.2.2.2.2.2.2.1⟩ : Flash) 1 h_y26)]
                  rotate_left
                  · show _ = _; kernel_rfl
                  · show _ = _; kernel_rfl
                  conv => lhs; whnf
                  cases hb27 : (decide (y26 < 0))
                  · replace h := ifF h (decF hb27); conv => lhs; whnf
                    cases hb28 : (y26 != y25.1)
                    · replace h := ifF h ((fun h => not_not_intro (bneF h)) hb28); conv => lhs; whnf
                      obtain ⟨y29, h_y29, h⟩ := callK_inv h
                      rw [cl_eq hcl (L_laws_toFlash a_0 h_y29)]
                      rotate_left
                      · show _ = _; kernel_rfl
                      · show _ = _; kernel_rfl
                      conv => lhs; whnf
                      obtain ⟨y30, h_y30, h⟩ := callK_inv h
                      rw [cl_eq hcl (L_laws_toFaultS a_1 h_y30)]
                      rotate_left
                      · show _ = _; kernel_rfl
                      · show _ = _; kernel_rfl
                      conv => lhs; whnf
                      obtain ⟨y31, h_y31, h⟩ := callK_inv h
                      rw [cl_eq hcl (L_impl_ApplyFaults a_0.Geo.Dies a_0.Geo.Blocks a_0.Geo.Pages a_0.Fuse a_0.Keep a_0.Off a_0.Ops y29 y30 h_y31)]
                      rotate_left
                      · show _ = _; kernel_rfl
                      · show _ = _; kernel_rfl
                      conv => lhs; whnf
                      obtain ⟨y32, h_y32, h⟩ := callK_inv h
                      rw [cl_eq hcl (L_laws_eqFlash (⟨⟨y31.1, y31.2.1, y31.2.2.1⟩, y31.2.2.2.2.2.2.2.2, y31.2.2.2.1, y31.2.2.2.2.1, y31.2.2.2.2.2.1, y31.2.2.2.2.2.2.1⟩ : Flash) y7.1 h_y32)]
                      rotate_left
                      · show _ = _; kernel_rfl
                      · show _ = _; kernel_rfl
                      conv => lhs; whnf
                      cases hb33 : y32
                      · replace h := ifF h (booF hb33); conv => lhs; whnf
                        try (rw [hb33]; conv => lhs; whnf)
                        try (rw [hb33]; conv => lhs; whnf)
                        try (rw [hb33]; conv => lhs; whnf)
                        obtain rfl := Option.some.inj h; show _ = _; kernel_rfl

                      · replace h := ifT h hb33; conv => lhs; whnf
                        try (rw [hb33]; conv => lhs; whnf)
                        try (rw [hb33]; conv => lhs; whnf)
                        try (rw [hb33]; conv => lhs; whnf)
                        cases hb34 : (y31.2.2.2.2.2.2.2.1 != y7.2)
                        · replace h := ifF h ((fun h => not_not_intro (bneF h)) hb34); conv => lhs; whnf
                          obtain ⟨y35, h_y35, h⟩ := callK_inv h
                          rw [cl_eq hcl (L_laws_heldFlash (⟨⟨y10.1, y10.2.1, y10.2.2.1⟩, y25.2, y10.2.2.2.1, y10.2.2.2.2.1, y10.2.2.2.2.2.1, y10.2.2.2.2.2.2.1⟩ : Flash) 1 h_y35)]
                          rotate_left
                          · show _ = _; kernel_rfl
                          · show _ = _; kernel_rfl
                          conv => lhs; whnf
                          cases hb36 : (decide (y35 < 0))
                          · replace h := ifF h (decF hb36); conv => lhs; whnf
                            cases hb37 : (y35 != y25.1)
                            · replace h := ifF h ((fun h => not_not_intro (bneF h)) hb37); conv => lhs; whnf
                              obtain rfl := Option.some.inj h; show _ = _; kernel_rfl

                            · replace h := ifT h (bneT hb37); conv => lhs; whnf
                              obtain rfl := Option.some.inj h; show _ = _; kernel_rfl

                          · replace h := ifT h (decT hb36); conv => lhs; whnf
                            obtain rfl := Option.some.inj h; show _ = _; kernel_rfl

                        · replace h := ifT h (bneT hb34); conv => lhs; whnf
                          obtain rfl := Option.some.inj h; show _ = _; kernel_rfl

                    · replace h := ifT h (bneT hb28); conv => lhs; whnf
                      obtain rfl := Option.some.inj h; show _ = _; kernel_rfl

                  · replace h := ifT h (decT hb27); conv => lhs; whnf
                    obtain rfl := Option.some.inj h; show _ = _; kernel_rfl

              · replace h := ifT h (decT hb22); conv => lhs; whnf
                try (rw [hb22]; conv => lhs; whnf)
                try (rw [hb22]; conv => lhs; whnf)
                try (rw [hb22]; conv => lhs; whnf)
                try (rw [hb22]; conv => lhs; whnf)
                obtain rfl := Option.some.inj h; show _ = _; kernel_rfl

        · replace h := ifT h (bneT hb13); conv => lhs; whnf
          obtain rfl := Option.some.inj h; show _ = _; kernel_rfl

    · replace h := ifT h (decT hb4); conv => lhs; whnf
      obtain rfl := Option.some.inj h; show _ = _; kernel_rfl

  · replace h := ifT h (decT hb2); conv => lhs; whnf
    obtain rfl := Option.some.inj h; show _ = _; kernel_rfl

theorem cat_ok {R : Type} {a b : ByteArray} (h : a.size + b.size ≤ 9000000000000000000) (x : Option R) : grd (((ByteArray.size a + ByteArray.size b : Nat) : Int) ≤ 9223372036854775807) x = x := grd_pos (by omega) x
/-! ### Marks -/
theorem pl_mText (k : Int) (h : 0 ≤ k ∧ k ≤ 1000000000) : ∃ t, p_laws_markText k = some t := by
  unfold p_laws_markText
  by_cases h0 : k ≤ 0
  · rw [if_pos h0]; exact ⟨_, rfl⟩
  rw [if_neg h0]
  have := iterK_ex (R := ByteArray) (Q := fun _ => True) (f := fun ((v2, v3) : (Int × ByteArray)) (nx4 : (Int × ByteArray) → Option ByteArray) =>
      if v2 > 0 then
        grd (((ByteArray.size (bytesOf ([[.lit (.int .u8 (IntKind.u8.wrap (IntKind.i64.wrap (48 + (Int.tmod v2 10)))))]] : List (List D))) + ByteArray.size v3 : Nat) : Int) ≤ 9223372036854775807) <|
        nx4 ((IntKind.i64.wrap (Int.tdiv v2 10)), ((bytesOf ([[.lit (.int .u8 (IntKind.u8.wrap (IntKind.i64.wrap (48 + (Int.tmod v2 10)))))]] : List (List D))) ++ v3))
      else
        grd (((ByteArray.size (⟨#[109]⟩ : ByteArray) + ByteArray.size v3 : Nat) : Int) ≤ 9223372036854775807) <|
        some ((⟨#[109]⟩ : ByteArray) ++ v3)) (fun d (s : Int × ByteArray) => 0 ≤ s.1 ∧ s.1 ≤ 1000000000 ∧ d = s.1.toNat ∧ s.2.size + s.1.toNat ≤ 1000000000) (fun d s hs nx hnx => by
      obtain ⟨v2, v3⟩ := s
      obtain ⟨g1, g2, g3, g4⟩ := hs
      dsimp only at g1 g2 g3 g4 ⊢
      have hb : ∀ x : Int, (bytesOf ([[.lit (.int .u8 x)]] : List (List D))).size = 1 := fun _ => rfl
      by_cases hc : v2 > 0
      · have hq := Int.tdiv_eq_ediv_of_nonneg (a := v2) (b := 10) (by omega)
        rw [if_pos hc, cat_ok (by rw [hb]; omega), wrap_sm (Int.tdiv v2 10) (by omega) (by omega)]
        refine hnx (Int.tdiv v2 10).toNat _ (by omega) ⟨by dsimp only; omega, by dsimp only; omega, rfl, ?_⟩
        dsimp only
        rw [ByteArray.size_append, hb]; omega
      · rw [if_neg hc, cat_ok (by show 1 + v3.size ≤ _; omega)]
        exact ⟨_, rfl, trivial⟩) k.toNat (k, ⟨#[]⟩) (by unfold NN; omega) ⟨h.1, h.2, rfl, by show 0 + k.toNat ≤ _; omega⟩
  obtain ⟨t, e, _⟩ := this
  exact ⟨t, e⟩
noncomputable def mT (k : Int) : ByteArray := (p_laws_markText k).getD ⟨#[]⟩
theorem mT_ok (k : Int) (h : 0 ≤ k ∧ k ≤ 1000000000) : p_laws_markText k = some (mT k) := by
  obtain ⟨t, e⟩ := pl_mText k h
  unfold mT
  rw [e]; rfl
theorem w1 (k : Int) (h : 0 ≤ k ∧ k ≤ 1000000000) : IntKind.i64.wrap (k + 1) = k + 1 := wrap_sm _ (by omega) (by omega)

/-! ### A flash array: its size, its copy, comparison, marks -/
def cB (L : List Block) : Nat := (L.map fun b => b.Pages.length).sum
def Fit (L : List Block) : Prop := L.length + cB L ≤ 1048576
theorem cB_nil : cB [] = 0 := rfl
theorem cB_cons (b : Block) (L : List Block) : cB (b :: L) = b.Pages.length + cB L := by simp [cB]
theorem cB_app (L M : List Block) : cB (L ++ M) = cB L + cB M := by simp [cB]
theorem cB_mem {b : Block} {L : List Block} (h : b ∈ L) : b.Pages.length ≤ cB L := by
  induction L with
  | nil => simp at h
  | cons x L ih =>
    rw [cB_cons]
    rcases List.mem_cons.mp h with rfl | h
    · omega
    · have := ih h; omega
theorem cB_take (L : List Block) (i : Nat) : cB (L.take i) ≤ cB L := by
  have h := cB_app (L.take i) (L.drop i)
  rw [List.take_append_drop] at h
  omega
theorem cB_take1 (L : List Block) (i : Nat) (h : i < L.length) : cB (L.take (i + 1)) = cB (L.take i) + L[i].Pages.length := by
  rw [List.take_succ_eq_append_getElem h, cB_app, cB_cons, cB_nil]; omega
theorem Fit.pg {L : List Block} (h : Fit L) {b : Block} (hb : b ∈ L) : b.Pages.length ≤ 1048576 := by have := cB_mem hb; unfold Fit at h; omega
theorem Fit.len {L : List Block} (h : Fit L) : L.length ≤ 1048576 := by unfold Fit at h; omega

theorem pl_szS (l : List ByteArray) (n : Int) (hl : okL okS l) (hn : 0 ≤ n ∧ n ≤ 1048576) : ∃ r, p_laws_szStringS l n = some r ∧ (r < 0 ∨ (0 ≤ r ∧ r + l.length ≤ n)) := by
  unfold p_laws_szStringS
  have h1 := hl.1
  have hw : IntKind.i64.wrap (n - (l.length : Int)) = n - (l.length : Int) := wrap_sm _ (by omega) (by omega)
  rw [hw]
  by_cases h0 : n - (l.length : Int) < 0
  · rw [if_pos h0]; exact ⟨_, rfl, .inl (by omega)⟩
  rw [if_neg h0, grd_pos (by omega)]
  refine forK_ex (fun _ (v : Int) => 0 ≤ v ∧ v ≤ n - l.length) (fun i hi v hv nx hnx => ?_) (fun v hv => ⟨v, rfl, .inr (by omega)⟩) _ ⟨by omega, by omega⟩
  have hs : l[i].size ≤ 9223372036854775807 := hl.2 _ (List.getElem_mem hi)
  have hw2 : IntKind.i64.wrap (v - (ByteArray.size l[i] : Int)) = v - (ByteArray.size l[i] : Int) := wrap_sm _ (by omega) (by omega)
  rw [hw2]
  by_cases h2 : v - (ByteArray.size l[i] : Int) < 0
  · rw [if_pos h2]; exact ⟨_, rfl, .inl (by omega)⟩
  · rw [if_neg h2]; exact hnx _ (by omega)
theorem pl_szBS (L : List Block) (n : Int) (hl : okL okBlock L) (hn : 0 ≤ n ∧ n ≤ 1048576) : ∃ r, p_laws_szBlockS L n = some r ∧ (r < 0 ∨ (0 ≤ r ∧ r + (L.length + cB L : Nat) ≤ n)) := by
  unfold p_laws_szBlockS
  have h1 := hl.1
  have hw : IntKind.i64.wrap (n - (L.length : Int)) = n - (L.length : Int) := wrap_sm _ (by omega) (by omega)
  rw [hw]
  by_cases h0 : n - (L.length : Int) < 0
  · rw [if_pos h0]; exact ⟨_, rfl, .inl (by omega)⟩
  rw [if_neg h0, grd_pos (by omega)]
  refine forK_ex (fun i (v : Int) => 0 ≤ v ∧ v + L.length + cB (L.take i) ≤ n) (fun i hi v hv nx hnx => ?_) (fun v hv => ⟨v, rfl, .inr ?_⟩) _ (by rw [List.take_zero, cB_nil]; omega)
  · obtain ⟨r, e, hr⟩ := pl_szS L[i].Pages v (hl.2 _ (List.getElem_mem hi)).2.2 (by omega)
    have e2 : ∃ y, p_laws_szBlock L[i] v = some y ∧ (y < 0 ∨ (0 ≤ y ∧ y + L[i].Pages.length ≤ v)) := by
      unfold p_laws_szBlock
      rw [e, callK_some]
      by_cases h2 : r < 0
      · rw [if_pos h2]; exact ⟨_, rfl, .inl (by omega)⟩
      · rw [if_neg h2]; exact ⟨_, rfl, .inr (by omega)⟩
    obtain ⟨y, e3, hy⟩ := e2
    rw [e3, callK_some]
    by_cases h2 : y < 0
    · rw [if_pos h2]; exact ⟨_, rfl, .inl (by omega)⟩
    · rw [if_neg h2]
      refine hnx _ ⟨by omega, ?_⟩
      rw [cB_take1 L i hi]; omega
  · rw [List.take_length] at hv; omega
theorem pl_szF (x : Flash) (hx : okFlash x) : ∃ r, p_laws_szFlash x 1048576 = some r ∧ (r < 0 ∨ (0 ≤ r ∧ r ≤ 1048576 ∧ Fit x.Blocks)) := by
  obtain ⟨r, e, hr⟩ := pl_szBS x.Blocks 1048576 hx.2.1 (by omega)
  unfold p_laws_szFlash
  rw [e, callK_some]
  by_cases h : r < 0
  · rw [if_pos h]; exact ⟨_, rfl, .inl (by omega)⟩
  · rw [if_neg h]; exact ⟨_, rfl, .inr ⟨by omega, by omega, by unfold Fit; omega⟩⟩

theorem range_get {α : Type} (l : List α) (z : α) : (List.range l.length).map (fun i => l.getD i z) = l := by
  apply List.ext_getElem
  · simp
  · intro i h1 h2
    simp [List.getD_eq_getElem?_getD, h2]
theorem pl_toS (l : List ByteArray) (hl : l.length ≤ 1048576) : p_laws_toStringS l = some l := by
  unfold p_laws_toStringS
  rw [grd_pos (mkOk_nat _ _ _ (by omega) rfl rfl), grd_pos (by omega), Int.toNat_natCast]
  refine forK_rule (fun i (v : List ByteArray) => v.length = l.length ∧ v.take i = l.take i) (fun i hi v hv nx hnx => ?_) (fun v hv => ?_) _ ⟨by simp, by simp⟩
  · rw [getK_lt (by omega), Int.toNat_natCast]
    refine hnx _ ⟨by simpa using hv.1, ?_⟩
    rw [List.take_succ_eq_append_getElem (by simp; omega), List.take_set_of_le (by omega), hv.2, List.take_succ_eq_append_getElem hi]
    simp
  · have h1 : v.take l.length = v := List.take_of_length_le (by omega)
    have h2 := hv.2
    rw [h1, List.take_length] at h2
    rw [h2]
theorem pl_toBS (L : List Block) (h : Fit L) : p_laws_toBlockS L = some L := by
  have hl := h.len
  unfold p_laws_toBlockS
  rw [grd_pos (mkOk_nat _ _ _ (by omega) rfl rfl), grd_pos (by omega), Int.toNat_natCast]
  refine forK_rule (fun i (v : List Block) => v.length = L.length ∧ v.take i = L.take i) (fun i hi v hv nx hnx => ?_) (fun v hv => ?_) _ ⟨by simp, by simp⟩
  · have e : p_laws_toBlock L[i] = some L[i].Pages := by
      unfold p_laws_toBlock
      rw [pl_toS _ (h.pg (List.getElem_mem hi)), callK_some]
    rw [e, callK_some, getK_lt (by omega), Int.toNat_natCast]
    refine hnx _ ⟨by simpa using hv.1, ?_⟩
    rw [List.take_succ_eq_append_getElem (by simp; omega), List.take_set_of_le (by omega), hv.2, List.take_succ_eq_append_getElem hi, List.getElem_set_self]
  · have h1 : v.take L.length = v := List.take_of_length_le (by omega)
    have h2 := hv.2
    rw [h1, List.take_length] at h2
    rw [grd_pos hv.1.symm, h2]
theorem pl_toF (x : Flash) (h : Fit x.Blocks) : p_laws_toFlash x = some x.Blocks := by
  unfold p_laws_toFlash p_laws_toGeometry
  rw [callK_some, pl_toBS _ h, callK_some]

theorem pl_eqS (l : List ByteArray) (h : l.length ≤ 1048576) : p_laws_eqStringS l l = some true := by
  unfold p_laws_eqStringS
  rw [if_neg (by simp), grd_pos (by omega)]
  exact forK_rule (fun _ _ => True) (fun i hi s _ nx hnx => by rw [getK_lt hi, if_pos (by simp)]; exact hnx () trivial) (fun s _ => rfl) () trivial
theorem pl_eqBS (L : List Block) (h : Fit L) : p_laws_eqBlockS L L = some true := by
  have hl := h.len
  unfold p_laws_eqBlockS
  rw [if_neg (by simp), grd_pos (by omega)]
  refine forK_rule (fun _ _ => True) (fun i hi s _ nx hnx => ?_) (fun s _ => rfl) () trivial
  have e : p_laws_eqBlock L[i] L[i] = some true := by
    unfold p_laws_eqBlock
    simp [pl_eqS _ (h.pg (List.getElem_mem hi))]
  rw [getK_lt hi, e, callK_some, if_pos rfl]
  exact hnx () trivial
theorem pl_eqF (x : Flash) (h : Fit x.Blocks) : p_laws_eqFlash x x = some true := by
  unfold p_laws_eqFlash p_laws_eqGeometry
  simp [pl_eqBS _ h]

/-- Texts from k on. -/
noncomputable def mS (k : Int) (n : Nat) : List ByteArray := (List.range n).map fun (i : Nat) => mT (k + (i : Int))
theorem mS_len (k : Int) (n : Nat) : (mS k n).length = n := by unfold mS; simp
theorem mS_get (k : Int) (n i : Nat) (h : i < n) : (mS k n)[i]'(by rw [mS_len]; exact h) = mT (k + i) := by unfold mS; simp
noncomputable def mBk (k : Int) (b : Block) : Block := ⟨k, k + 1, (Int.tmod (k + 2) 3) == 0, mS (k + 3) b.Pages.length⟩
noncomputable def mBs : Int → List Block → List Block
  | _, [] => []
  | k, b :: L => mBk k b :: mBs (k + 3 + b.Pages.length) L
def mEnd (k : Int) (L : List Block) : Int := k + 3 * L.length + cB L
theorem mBs_len : ∀ (k : Int) (L : List Block), (mBs k L).length = L.length
  | _, [] => rfl
  | k, b :: L => by rw [mBs, List.length_cons, List.length_cons, mBs_len]
theorem mEnd_cons (k : Int) (b : Block) (L : List Block) : mEnd k (b :: L) = mEnd (k + 3 + b.Pages.length) L := by
  unfold mEnd; rw [cB_cons, List.length_cons]; push_cast; omega
theorem mBs_app : ∀ (k : Int) (L M : List Block), mBs k (L ++ M) = mBs k L ++ mBs (mEnd k L) M
  | k, [], M => by simp [mBs, mEnd, cB_nil]
  | k, b :: L, M => by rw [List.cons_append, mBs, mBs_app, mEnd_cons]; rfl
theorem mEnd_app (k : Int) (L M : List Block) : mEnd k (L ++ M) = mEnd (mEnd k L) M := by unfold mEnd; rw [cB_app, List.length_append]; push_cast; omega
theorem mEnd_take1 (k : Int) (L : List Block) (i : Nat) (h : i < L.length) : mEnd k (L.take (i + 1)) = mEnd k (L.take i) + 3 + L[i].Pages.length := by
  unfold mEnd; rw [cB_take1 L i h, List.length_take, List.length_take, Nat.min_eq_left (by omega), Nat.min_eq_left (by omega)]; push_cast; omega
theorem mEnd_le (k : Int) (L : List Block) (h : Fit L) (i : Nat) : mEnd k (L.take i) ≤ k + 4194304 := by
  have h1 := cB_take L i
  have h2 : (L.take i).length ≤ L.length := by rw [List.length_take]; omega
  unfold Fit at h; unfold mEnd; omega
theorem mEnd_ge (k : Int) (L : List Block) : k ≤ mEnd k L := by unfold mEnd; omega
theorem mBs_get (k : Int) (L : List Block) (i : Nat) (h : i < L.length) : (mBs k L)[i]'(by rw [mBs_len]; exact h) = mBk (mEnd k (L.take i)) L[i] := by
  have h1 : L = L.take i ++ L[i] :: L.drop (i + 1) := by rw [← List.drop_eq_getElem_cons h, List.take_append_drop]
  have hl : (L.take i).length = i := by rw [List.length_take]; omega
  have h2 : mBs k L = mBs k (L.take i) ++ (mBk (mEnd k (L.take i)) L[i] :: mBs (mEnd k (L.take i) + 3 + L[i].Pages.length) (L.drop (i + 1))) := by
    conv => lhs; rw [h1]
    rw [mBs_app]; rfl
  have h3 : (mBs k L)[i]? = some (mBk (mEnd k (L.take i)) L[i]) := by
    rw [h2, List.getElem?_append_right (by rw [mBs_len, hl]; exact Nat.le_refl _), mBs_len, hl, Nat.sub_self]; rfl
  rw [List.getElem?_eq_getElem (by rw [mBs_len]; exact h)] at h3
  exact Option.some.inj h3

theorem getK_set {α R : Type} {l : List α} {n : Nat} {x : α} (h : n < l.length) (k : α → Option R) : getK (l.set n x) (n : Int) k = k x := by
  rw [getK_lt (by simpa using h)]
  simp
theorem pl_markS (i : Nat) (k : Int) (L : List Block) (hi : i < L.length) (hk : 0 ≤ k ∧ k ≤ 100000000) (hl : L[i].Pages.length ≤ 1048576) :
    p_laws_markStringS i k L = some (k + L[i].Pages.length, L.set i ⟨L[i].Erases, L[i].Next, L[i].Bad, mS k L[i].Pages.length⟩) := by
  unfold p_laws_markStringS
  refine iterK_rule (fun d (s : Int × Int × List Block) => ∃ (j : Nat) (P : List ByteArray), s.1 = k + j ∧ s.2.1 = j ∧ j + d = L[i].Pages.length ∧ P.length = L[i].Pages.length ∧ P.take j = mS k j ∧ s.2.2 = L.set i ⟨L[i].Erases, L[i].Next, L[i].Bad, P⟩) ?_ L[i].Pages.length _ (by unfold NN; omega)
    ⟨0, L[i].Pages, by simp, rfl, by omega, rfl, by simp [mS], by rw [show (⟨L[i].Erases, L[i].Next, L[i].Bad, L[i].Pages⟩ : Block) = L[i] from rfl]; simp⟩
  rintro d ⟨v1, v2, v3⟩ ⟨j, P, g1, g2, g3, g4, g5, g6⟩ nx hnx
  dsimp only at g1 g2 g6 hnx ⊢
  subst g1 g2 g6
  rw [getN_lt (by simpa using hi)]
  simp only [List.getElem_set_self]
  by_cases hj : j < L[i].Pages.length
  · rw [if_pos (by omega), mT_ok _ (by omega), callK_some, getK_lt (by omega), w1 _ (by omega), wrap_sm ((j : Int) + 1) (by omega) (by omega), Int.toNat_natCast, List.set_set]
    refine hnx (d - 1) _ (by omega) ⟨j + 1, P.set j (mT (k + j)), by dsimp only; omega, by dsimp only; omega, by omega, by simpa using g4, ?_, rfl⟩
    rw [List.take_succ_eq_append_getElem (by simp; omega), List.take_set_of_le (by omega), g5]
    unfold mS
    rw [List.range_succ, List.map_append]
    simp
  · have : j = L[i].Pages.length := by omega
    rw [if_neg (by omega)]
    have h1 : P = mS k L[i].Pages.length := by rw [← this, ← g5, this, ← g4, List.take_length]
    rw [h1, this]
theorem pl_markBS (k : Int) (L : List Block) (hk : 0 ≤ k ∧ k ≤ 1000000) (h : Fit L) : p_laws_markBlockS k L = some (mEnd k L, mBs k L) := by
  have hlen := h.len
  unfold p_laws_markBlockS
  refine iterK_rule (fun d (s : Int × Int × List Block) => ∃ i : Nat, s.1 = mEnd k (L.take i) ∧ s.2.1 = i ∧ i + d = L.length ∧ s.2.2 = mBs k (L.take i) ++ L.drop i) ?_ L.length _ (by unfold NN; omega) ⟨0, by simp [mEnd, cB_nil], rfl, by omega, by simp [mBs]⟩
  rintro d ⟨v1, v2, v3⟩ ⟨i, g1, g2, g3, g4⟩ nx hnx
  dsimp only at g1 g2 g4 hnx ⊢
  subst g2
  have hv1 : 0 ≤ v1 ∧ v1 ≤ 9000000 := by
    have := mEnd_le k L h i
    have := mEnd_ge k (L.take i)
    omega
  have hlt : (L.take i).length = i ∨ L.length < i := by rw [List.length_take]; omega
  have hv3 : v3.length = L.length := by
    rw [g4, List.length_append, mBs_len, List.length_take, List.length_drop]; omega
  by_cases hi : i < L.length
  · have hl : (mBs k (L.take i)).length = i := by rw [mBs_len, List.length_take]; omega
    have hg : v3[i]'(by omega) = L[i] := by
      have : v3[i]? = some L[i] := by
        rw [g4, List.getElem?_append_right (by omega), hl, Nat.sub_self, List.getElem?_drop, Nat.add_zero, List.getElem?_eq_getElem hi]
      rw [List.getElem?_eq_getElem (by omega)] at this
      exact Option.some.inj this
    have hp := h.pg (List.getElem_mem hi)
    have e2 : v1 + 1 + 1 = v1 + 2 := by omega
    have e3 : v1 + 2 + 1 = v1 + 3 := by omega
    have q1 := w1 v1 (by omega)
    have q2 : IntKind.i64.wrap (v1 + 2) = v1 + 2 := wrap_sm _ (by omega) (by omega)
    have q3 : IntKind.i64.wrap (v1 + 3) = v1 + 3 := wrap_sm _ (by omega) (by omega)
    have hv : i < v3.length := by omega
    rw [if_pos (by omega), getK_lt hv, hg]
    simp only [Int.toNat_natCast, q1, e2, q2, e3, q3, List.set_set, getK_set hv]
    rw [pl_markS i (v1 + 3) _ (by simpa using hv) (by omega) (by simpa using hp), callK_some, wrap_sm ((i : Int) + 1) (by omega) (by omega)]
    simp only [List.getElem_set_self, List.set_set]
    refine hnx (d - 1) _ (by omega) ⟨i + 1, ?_, by dsimp only; omega, by omega, ?_⟩
    · dsimp only; rw [mEnd_take1 k L i hi, ← g1]
    · dsimp only
      rw [g4, List.take_succ_eq_append_getElem hi, mBs_app, List.set_append_right _ _ (by omega), hl, Nat.sub_self, List.drop_eq_getElem_cons hi, List.set_cons_zero, ← g1]
      simp [mBs, mBk]
  · have : i = L.length := by omega
    subst this
    rw [if_neg (by omega)]
    rw [List.take_length] at g1 g4
    rw [List.drop_length, List.append_nil] at g4
    rw [g1, g4]
theorem pl_heldS (k : Int) (n : Nat) (hk : 0 ≤ k ∧ k ≤ 100000000) (hn : n ≤ 1048576) : p_laws_heldStringS (mS k n) k = some (k + n) := by
  unfold p_laws_heldStringS
  rw [grd_pos (by rw [mS_len]; omega)]
  refine forK_rule (fun i (v : Int) => v = k + i) (fun i hi v hv nx hnx => ?_) (fun v hv => by rw [hv, mS_len]) _ (by simp)
  subst hv
  rw [mS_len] at hi
  rw [mS_get k n i hi, mT_ok _ (by omega), callK_some, if_pos (by simp), w1 _ (by omega)]
  exact hnx _ (by push_cast; omega)
theorem pl_heldBS (k : Int) (L : List Block) (hk : 0 ≤ k ∧ k ≤ 1000000) (h : Fit L) : p_laws_heldBlockS (mBs k L) k = some (mEnd k L) := by
  have hlen := h.len
  unfold p_laws_heldBlockS
  rw [grd_pos (by rw [mBs_len]; omega)]
  refine forK_rule (fun i (v : Int) => v = mEnd k (L.take i)) (fun i hi v hv nx hnx => ?_) (fun v hv => by rw [hv, mBs_len, List.take_length]) _ (by simp [mEnd, cB_nil])
  rw [mBs_len] at hi
  have hv1 : 0 ≤ v ∧ v ≤ 9000000 := by
    have := mEnd_le k L h i
    have := mEnd_ge k (L.take i)
    omega
  have hp := h.pg (List.getElem_mem hi)
  have e2 : v + 1 + 1 = v + 2 := by omega
  have e3 : v + 2 + 1 = v + 3 := by omega
  have q1 := w1 v (by omega)
  have q2 : IntKind.i64.wrap (v + 2) = v + 2 := wrap_sm _ (by omega) (by omega)
  have q3 : IntKind.i64.wrap (v + 3) = v + 3 := wrap_sm _ (by omega) (by omega)
  rw [mBs_get k L i hi, ← hv]
  unfold mBk
  simp only [q1, e2, q2, e3, q3, pl_heldS (v + 3) L[i].Pages.length (by omega) hp, callK_some, not_true_eq_false, if_false, beq_self_eq_true, if_true]
  rw [if_neg (by omega)]
  exact hnx _ (by rw [mEnd_take1 k L i hi, hv])
theorem pl_markF (a0 a1 a2 a3 a4 : Int) (a5 : Bool) (a6 k : Int) (L : List Block) (hk : 0 ≤ k ∧ k ≤ 1000000) (h : Fit L) : p_laws_markFlash a0 a1 a2 a3 a4 a5 a6 k L = some (mEnd k L, mBs k L) := by
  unfold p_laws_markFlash
  rw [pl_markBS k L hk h, callK_some]
theorem pl_heldF (x : Flash) (k : Int) (L : List Block) (hx : x.Blocks = mBs k L) (hk : 0 ≤ k ∧ k ≤ 1000000) (h : Fit L) : p_laws_heldFlash x k = some (mEnd k L) := by
  unfold p_laws_heldFlash
  rw [hx, pl_heldBS k L hk h, callK_some, if_neg (by have := mEnd_ge k L; omega)]

/-! ### Valid arrays -/
theorem szE (x : ByteArray) : (x.toList == (⟨#[]⟩ : ByteArray).toList) = true ↔ x.size = 0 := by
  rw [str_eq, decide_eq_true_eq]
  constructor
  · intro h; rw [h]; rfl
  · intro h
    apply bytes_ext
    have h2 := bl_len x
    rw [h] at h2
    exact List.eq_nil_of_length_eq_zero h2
theorem inR_iff (n lo hi : Int) : inR n lo hi = true ↔ lo ≤ n ∧ n ≤ hi := by
  unfold inR
  simp
def PgOk (P : List ByteArray) (nx : Int) : Prop := ∀ (i : Nat) (h : i < P.length), P[i].size = 0 ∨ (P[i].size = 91 ∧ (i : Int) < nx)
def BOk (P : Int) (b : Block) : Prop := (0 ≤ b.Erases ∧ b.Erases ≤ 1000) ∧ (0 ≤ b.Next ∧ b.Next ≤ P) ∧ (b.Pages.length : Int) = P ∧ PgOk b.Pages b.Next
theorem pl_sBlk (b : Block) (P : Int) (hb : b.Pages.length ≤ 1048576) : ∃ y, p_spec_l06Block b P = some y ∧ (y = true ↔ BOk P b) := by
  unfold p_spec_l06Block
  by_cases h1 : inR b.Erases 0 1000 = true
  rotate_left
  · rw [if_neg h1]; exact ⟨_, rfl, by simp, fun h => absurd ((inR_iff _ _ _).mpr h.1) h1⟩
  by_cases h2 : inR b.Next 0 P = true
  rotate_left
  · rw [if_pos h1, if_neg h2]; exact ⟨_, rfl, by simp, fun h => absurd ((inR_iff _ _ _).mpr h.2.1) h2⟩
  by_cases h3 : (b.Pages.length : Int) = P
  rotate_left
  · rw [if_pos h1, if_pos h2, if_pos h3]; exact ⟨_, rfl, by simp, fun h => absurd h.2.2.1 h3⟩
  rw [if_pos h1, if_pos h2, if_neg (by simpa using h3), grd_pos (by omega)]
  refine forI_ex (fun i _ => ∀ (j : Nat) (hj : j < b.Pages.length), j < i → b.Pages[j].size = 0 ∨ (b.Pages[j].size = 91 ∧ (j : Int) < b.Next)) (fun i hi s hs nx hnx => ?_) (fun s hs => ?_) () (fun j hj h => by omega)
  · have hi' : i < b.Pages.length := by omega
    have ext : (b.Pages[i].size = 0 ∨ (b.Pages[i].size = 91 ∧ (i : Int) < b.Next)) → ∃ r, nx () = some r ∧ (r = true ↔ BOk P b) := fun hc => hnx () fun j hj hlt => by
      by_cases hji : j = i
      · subst hji; exact hc
      · exact hs j hj (by omega)
    have no : ¬ (b.Pages[i].size = 0 ∨ (b.Pages[i].size = 91 ∧ (i : Int) < b.Next)) → ∃ r, some false = some r ∧ (r = true ↔ BOk P b) := fun hc => ⟨_, rfl, by simp, fun h => absurd (h.2.2.2 i hi') hc⟩
    rw [getK_lt hi']
    by_cases c1 : (ByteArray.size b.Pages[i] : Int) = 0
    · rw [if_neg (by simpa using c1)]; exact ext (.inl (by omega))
    rw [if_pos c1]
    by_cases c2 : (ByteArray.size b.Pages[i] : Int) = 91
    rotate_left
    · rw [if_pos c2]; exact no (by omega)
    rw [if_neg (by simpa using c2)]
    by_cases c3 : (i : Int) ≥ b.Next
    · rw [if_pos c3]; exact no (by omega)
    · rw [if_neg c3]; exact ext (.inr ⟨by omega, by omega⟩)
  · exact ⟨_, rfl, fun _ => ⟨(inR_iff _ _ _).mp h1, (inR_iff _ _ _).mp h2, h3, fun i hi => hs i hi (by omega)⟩, fun _ => rfl⟩
theorem pl_iBlk (b : Block) (g : Geometry) (hb : b.Pages.length ≤ 1048576) : ∃ y, p_impl_Geometry_blockOk g b = some y ∧ (y = true ↔ BOk g.Pages b) := by
  unfold p_impl_Geometry_blockOk
  by_cases h1 : inR b.Erases 0 1000 = true
  rotate_left
  · rw [if_neg h1]; exact ⟨_, rfl, by simp, fun h => absurd ((inR_iff _ _ _).mpr h.1) h1⟩
  by_cases h2 : inR b.Next 0 g.Pages = true
  rotate_left
  · rw [if_pos h1, if_neg h2]; exact ⟨_, rfl, by simp, fun h => absurd ((inR_iff _ _ _).mpr h.2.1) h2⟩
  by_cases h3 : (b.Pages.length : Int) = g.Pages
  rotate_left
  · rw [if_pos h1, if_pos h2, if_pos h3]; exact ⟨_, rfl, by simp, fun h => absurd h.2.2.1 h3⟩
  rw [if_pos h1, if_pos h2, if_neg (by simpa using h3), grd_pos (by omega)]
  refine forK_ex (fun i _ => ∀ (j : Nat) (hj : j < b.Pages.length), j < i → b.Pages[j].size = 0 ∨ (b.Pages[j].size = 91 ∧ (j : Int) < b.Next)) (fun i hi' s hs nx hnx => ?_) (fun s hs => ?_) () (fun j hj h => by omega)
  · have ext : (b.Pages[i].size = 0 ∨ (b.Pages[i].size = 91 ∧ (i : Int) < b.Next)) → ∃ r, nx () = some r ∧ (r = true ↔ BOk g.Pages b) := fun hc => hnx () fun j hj hlt => by
      by_cases hji : j = i
      · subst hji; exact hc
      · exact hs j hj (by omega)
    have no : ¬ (b.Pages[i].size = 0 ∨ (b.Pages[i].size = 91 ∧ (i : Int) < b.Next)) → ∃ r, some false = some r ∧ (r = true ↔ BOk g.Pages b) := fun hc => ⟨_, rfl, by simp, fun h => absurd (h.2.2.2 i hi') hc⟩
    by_cases c1 : (b.Pages[i].toList == (⟨#[]⟩ : ByteArray).toList) = true
    · rw [if_pos c1]; exact ext (.inl ((szE _).mp c1))
    rw [if_neg c1]
    have c1' : ¬ b.Pages[i].size = 0 := fun h => c1 ((szE _).mpr h)
    by_cases c2 : (ByteArray.size b.Pages[i] : Int) = 91
    rotate_left
    · rw [if_pos c2]; exact no (by omega)
    rw [if_neg (by simpa using c2)]
    by_cases c3 : (i : Int) ≥ b.Next
    · rw [if_pos c3]; exact no (by omega)
    · rw [if_neg c3]; exact ext (.inr ⟨by omega, by omega⟩)
  · exact ⟨_, rfl, fun _ => ⟨(inR_iff _ _ _).mp h1, (inR_iff _ _ _).mp h2, h3, fun i hi => hs i hi hi⟩, fun _ => rfl⟩
def GOk (g : Geometry) : Prop := (2 ≤ g.Dies ∧ g.Dies ≤ 3) ∧ (4 ≤ g.Blocks ∧ g.Blocks ≤ 12) ∧ (g.Pages = 8 ∨ g.Pages = 16)
theorem pl_sGeo (g : Geometry) : ∃ y, p_spec_ValidGeometry g = some y ∧ (y = true ↔ GOk g) := by
  unfold p_spec_ValidGeometry GOk
  rw [← inR_iff, ← inR_iff]
  cases h1 : inR g.Dies 2 3 <;> cases h2 : inR g.Blocks 4 12 <;> by_cases h3 : g.Pages = 8 <;> simp [h3]
theorem pl_iGeo (g : Geometry) : p_impl_ValidGeometry g = p_spec_ValidGeometry g := rfl
def LOk (P : Int) (L : List Block) : Prop := ∀ b ∈ L, BOk P b
def VF (f : Flash) : Prop := GOk f.Geo ∧ (f.Blocks.length : Int) = f.Geo.Dies * f.Geo.Blocks ∧ (-1 ≤ f.Fuse ∧ f.Fuse ≤ 1000000) ∧ (0 ≤ f.Keep ∧ f.Keep ≤ 91) ∧ 0 ≤ f.Ops ∧ LOk f.Geo.Pages f.Blocks
theorem GOk.all {g : Geometry} (h : GOk g) : 0 < g.Dies * g.Blocks ∧ g.Dies * g.Blocks ≤ 36 := by
  obtain ⟨⟨h1, h2⟩, ⟨h3, h4⟩, _⟩ := h
  have a1 : g.Dies * g.Blocks ≤ 3 * g.Blocks := Int.mul_le_mul_of_nonneg_right h2 (by omega)
  have a2 : 2 * g.Blocks ≤ g.Dies * g.Blocks := Int.mul_le_mul_of_nonneg_right h1 (by omega)
  omega
theorem GOk.wrap {g : Geometry} (h : GOk g) : IntKind.i64.wrap (g.Dies * g.Blocks) = g.Dies * g.Blocks := by
  have := h.all
  exact wrap_sm _ (by omega) (by omega)
theorem pl_sVF (f : Flash) (hF : Fit f.Blocks) : ∃ y, p_spec_ValidFlash f = some y ∧ (y = true ↔ VF f) := by
  unfold p_spec_ValidFlash
  obtain ⟨y, e, hy⟩ := pl_sGeo f.Geo
  rw [e, callK_some]
  by_cases h0 : y = true
  rotate_left
  · rw [if_neg h0]; exact ⟨_, rfl, by simp, fun h => absurd (hy.mpr h.1) h0⟩
  have hg := hy.mp h0
  rw [if_pos h0, hg.wrap]
  by_cases h1 : (f.Blocks.length : Int) = f.Geo.Dies * f.Geo.Blocks
  rotate_left
  · rw [if_pos h1]; exact ⟨_, rfl, by simp, fun h => absurd h.2.1 h1⟩
  rw [if_neg (by simpa using h1)]
  by_cases h2 : inR f.Fuse (-1) 1000000 = true
  rotate_left
  · rw [if_neg h2]; exact ⟨_, rfl, by simp, fun h => absurd ((inR_iff _ _ _).mpr h.2.2.1) h2⟩
  rw [if_pos h2]
  by_cases h3 : inR f.Keep 0 91 = true
  rotate_left
  · rw [if_neg h3]; exact ⟨_, rfl, by simp, fun h => absurd ((inR_iff _ _ _).mpr h.2.2.2.1) h3⟩
  rw [if_pos h3]
  by_cases h4 : f.Ops < 0
  · rw [if_pos h4]; exact ⟨_, rfl, by simp, fun h => absurd h.2.2.2.2.1 (by omega)⟩
  have hl := hF.len
  rw [if_neg h4, grd_pos (by omega)]
  refine forK_ex (fun i _ => ∀ (j : Nat) (hj : j < f.Blocks.length), j < i → BOk f.Geo.Pages f.Blocks[j]) (fun i hi s hs nx hnx => ?_) (fun s hs => ?_) () (fun j hj h => by omega)
  · obtain ⟨z, e2, hz⟩ := pl_sBlk f.Blocks[i] f.Geo.Pages (hF.pg (List.getElem_mem hi))
    rw [e2, callK_some]
    by_cases hz0 : z = true
    · rw [if_pos hz0]
      exact hnx () fun j hj hlt => by
        by_cases hji : j = i
        · subst hji; exact hz.mp hz0
        · exact hs j hj (by omega)
    · rw [if_neg hz0]; exact ⟨_, rfl, by simp, fun h => absurd (hz.mpr (h.2.2.2.2.2 _ (List.getElem_mem hi))) hz0⟩
  · refine ⟨_, rfl, fun _ => ⟨hg, h1, (inR_iff _ _ _).mp h2, (inR_iff _ _ _).mp h3, by omega, fun b hb => ?_⟩, fun _ => rfl⟩
    obtain ⟨j, hj, rfl⟩ := List.mem_iff_getElem.mp hb
    exact hs j hj hj
theorem pl_iVF (f : Flash) (hF : Fit f.Blocks) : ∃ y, p_impl_ValidFlash f = some y ∧ (y = true ↔ VF f) := by
  unfold p_impl_ValidFlash p_impl_Geometry_all
  obtain ⟨y, e, hy⟩ := pl_sGeo f.Geo
  rw [pl_iGeo, e, callK_some, callK_some]
  by_cases h0 : y = true
  rotate_left
  · rw [if_neg h0]; exact ⟨_, rfl, by simp, fun h => absurd (hy.mpr h.1) h0⟩
  have hg := hy.mp h0
  rw [if_pos h0, hg.wrap]
  by_cases h1 : (f.Blocks.length : Int) = f.Geo.Dies * f.Geo.Blocks
  rotate_left
  · rw [if_pos h1]; exact ⟨_, rfl, by simp, fun h => absurd h.2.1 h1⟩
  rw [if_neg (by simpa using h1)]
  by_cases h2 : inR f.Fuse (-1) 1000000 = true
  rotate_left
  · rw [if_neg h2]; exact ⟨_, rfl, by simp, fun h => absurd ((inR_iff _ _ _).mpr h.2.2.1) h2⟩
  rw [if_pos h2]
  by_cases h3 : inR f.Keep 0 91 = true
  rotate_left
  · rw [if_neg h3]; exact ⟨_, rfl, by simp, fun h => absurd ((inR_iff _ _ _).mpr h.2.2.2.1) h3⟩
  rw [if_pos h3]
  by_cases h4 : f.Ops < 0
  · rw [if_pos h4]; exact ⟨_, rfl, by simp, fun h => absurd h.2.2.2.2.1 (by omega)⟩
  have hl := hF.len
  have hix : ∃ r, p_slices_IndexFunc_impl_ValidFlash_c1 f.Blocks f = some r ∧ ((r ≥ 0) ↔ ¬ LOk f.Geo.Pages f.Blocks) := by
    unfold p_slices_IndexFunc_impl_ValidFlash_c1 p_impl_ValidFlash_c1
    rw [grd_pos (by omega)]
    refine forK_ex (fun i _ => ∀ (j : Nat) (hj : j < f.Blocks.length), j < i → BOk f.Geo.Pages f.Blocks[j]) (fun i hi s hs nx hnx => ?_) (fun s hs => ?_) () (fun j hj h => by omega)
    · obtain ⟨z, e2, hz⟩ := pl_iBlk f.Blocks[i] f.Geo (hF.pg (List.getElem_mem hi))
      rw [e2, callK_some, callK_some]
      cases z with
      | true =>
        rw [if_neg (by simp)]
        exact hnx () fun j hj hlt => by
          by_cases hji : j = i
          · subst hji; exact hz.mp rfl
          · exact hs j hj (by omega)
      | false =>
        rw [if_pos (by simp)]
        exact ⟨_, rfl, fun _ h => absurd (hz.mpr (h _ (List.getElem_mem hi))) (by simp), fun _ => by omega⟩
    · refine ⟨_, rfl, fun h => absurd h (by omega), fun h => absurd (fun b hb => ?_) h⟩
      obtain ⟨j, hj, rfl⟩ := List.mem_iff_getElem.mp hb
      exact hs j hj hj
  obtain ⟨r, er, hr⟩ := hix
  unfold p_slices_ContainsFunc_impl_ValidFlash_c1
  rw [if_neg h4, er]
  simp only [callK_some]
  refine ⟨_, rfl, ?_⟩
  rw [Bool.not_eq_true', decide_eq_false_iff_not, hr, Classical.not_not]
  exact ⟨fun h => ⟨hg, h1, (inR_iff _ _ _).mp h2, (inR_iff _ _ _).mp h3, by omega, h⟩, fun h => h.2.2.2.2.2⟩

/-! ### Faults -/
theorem forK_two {α σ R R2 : Type} {l : List α} {f : Nat → α → σ → (σ → Option R) → Option R} {g : Nat → α → σ → (σ → Option R2) → Option R2} (J : Nat → σ → Prop)
    (round : ∀ (i : Nat) (hi : i < l.length) (s : σ), J i s → ∃ s', (∀ nx, f i l[i] s nx = nx s') ∧ (∀ nx, g i l[i] s nx = nx s') ∧ J (i + 1) s') (s : σ) (h0 : J 0 s) :
    ∃ s', J l.length s' ∧ (∀ k, forK l f s k = k s') ∧ (∀ k, forK l g s k = k s') := by
  have go : ∀ (n i : Nat) (s : σ), i ≤ l.length → l.length - i = n → J i s → ∃ s', J l.length s' ∧ (∀ k, forGo f k i (l.drop i) s = k s') ∧ (∀ k, forGo g k i (l.drop i) s = k s') := by
    intro n
    induction n with
    | zero =>
      intro i s h1 h2 h3
      obtain rfl : i = l.length := by omega
      refine ⟨s, h3, fun k => ?_, fun k => ?_⟩ <;> rw [List.drop_length] <;> rfl
    | succ n ih =>
      intro i s h1 h2 h3
      have hi : i < l.length := by omega
      obtain ⟨s1, g1, g2, g3⟩ := round i hi s h3
      obtain ⟨s', q1, q2, q3⟩ := ih (i + 1) s1 (by omega) (by omega) g3
      refine ⟨s', q1, fun k => ?_, fun k => ?_⟩
      · rw [List.drop_eq_getElem_cons hi, forGo_cons, g1]; exact q2 k
      · rw [List.drop_eq_getElem_cons hi, forGo_cons, g2]; exact q3 k
  exact go l.length 0 s (Nat.zero_le _) rfl h0
theorem forI_two {σ R R2 : Type} {n : Int} {f : Nat → σ → (σ → Option R) → Option R} {g : Nat → σ → (σ → Option R2) → Option R2} (J : Nat → σ → Prop)
    (round : ∀ (i : Nat) (hi : (i : Int) < n) (s : σ), J i s → ∃ s', (∀ nx, f i s nx = nx s') ∧ (∀ nx, g i s nx = nx s') ∧ J (i + 1) s') (s : σ) (h0 : J 0 s) :
    ∃ s', J n.toNat s' ∧ (∀ k, forI n f s k = k s') ∧ (∀ k, forI n g s k = k s') := by
  obtain ⟨s', q1, q2, q3⟩ := forK_two (l := List.range n.toNat) (f := fun i _ s nx => f i s nx) (g := fun i _ s nx => g i s nx) J (fun i hi s hs => round i (by rw [List.length_range] at hi; omega) s hs) s h0
  exact ⟨s', by rwa [List.length_range] at q1, q2, q3⟩
theorem u64_sm (n : Int) (h1 : 0 ≤ n) (h2 : n ≤ 9223372036854775807) : IntKind.u64.wrap n = n := by
  have : IntKind.u64.wrap n = n % 18446744073709551616 := rfl
  omega
/-- One bit of a page turned. -/
theorem pl_bit (x : ByteArray) (bit : Int) (hx : x.size = 91) (hb : 0 ≤ bit ∧ bit ≤ 727) : ∃ y, p_spec_FlipPageBit x bit = some (y, 0) ∧ p_impl_flippedBit x bit = some y ∧ y.size = 91 := by
  have hq : Int.tdiv bit 8 = bit / 8 := Int.tdiv_eq_ediv_of_nonneg hb.1
  have hr : Int.tmod bit 8 = bit % 8 := Int.tmod_eq_emod_of_nonneg hb.1
  have hw : IntKind.i64.wrap (Int.tdiv bit 8) = bit / 8 := by rw [hq]; exact wrap_sm _ (by omega) (by omega)
  have hu : IntKind.u64.wrap (Int.tmod bit 8) = Int.tmod bit 8 := u64_sm _ (by omega) (by omega)
  have hl : (bytesL x).length = 91 := by unfold bytesL; rw [List.length_map, Array.length_toList]; exact hx
  unfold p_spec_FlipPageBit p_impl_flippedBit
  rw [if_neg (by omega), if_pos ((inR_iff _ _ _).mpr hb), grd_pos (appOk_of _ _ (by omega)), grd_pos (appOk_of _ _ (by omega)), hw, hu, getK_in (by omega) (by omega), getK_in (by omega) (by omega), grd_pos (by omega), grd_pos (by omega)]
  refine ⟨_, rfl, rfl, ?_⟩
  rw [bytesOf_rU, size_ofL, List.length_map, List.length_set, hl]
theorem LOk.set {P : Int} {L : List Block} (h : LOk P L) {i : Nat} {b : Block} (hb : BOk P b) : LOk P (L.set i b) := fun x hx => (List.mem_or_eq_of_mem_set hx).elim (h x) fun e => e ▸ hb
/-- One bit of a page of the array turned. -/
theorem pl_flip (a0 a1 a2 a3 a4 : Int) (a5 : Bool) (a6 : Int) (P blk pg bit : Int) (L : List Block) (hL : LOk P L) (h1 : 0 ≤ blk ∧ blk < L.length) (h2 : 0 ≤ pg ∧ pg < P) (h3 : 0 ≤ bit ∧ bit ≤ 727) :
    ∃ L', p_spec_l08Flip a0 a1 a2 a3 a4 a5 a6 blk pg bit L = some L' ∧ p_impl_Flash_flip blk pg bit a0 a1 a2 a3 a4 a5 a6 L = some L' ∧ LOk P L' ∧ L'.length = L.length := by
  have hi : blk.toNat < L.length := by omega
  obtain ⟨b, hb⟩ : ∃ b, L[blk.toNat] = b := ⟨_, rfl⟩
  have hbk : BOk P b := hL b (by rw [← hb]; exact List.getElem_mem hi)
  obtain ⟨k1, k2, k3, k4⟩ := hbk
  have hp : pg.toNat < b.Pages.length := by omega
  obtain ⟨x, hx⟩ : ∃ x, b.Pages[pg.toNat] = x := ⟨_, rfl⟩
  have hxk := k4 pg.toNat hp
  rw [hx] at hxk
  unfold p_spec_l08Flip p_impl_Flash_flip
  rw [getK_in h1.1 h1.2, getK_in h1.1 h1.2]
  simp only [hb]
  rw [getK_in h2.1 (by omega), getK_in h2.1 (by omega)]
  simp only [hx]
  by_cases c : x.size = 0
  · have c3 := (szE x).mpr c
    refine ⟨L, ?_, by rw [if_pos c3], hL, rfl⟩
    by_cases c2 : pg ≥ b.Next
    · rw [if_pos c2]
    · rw [if_neg c2, if_pos c3]
  · obtain ⟨hs, hlt⟩ : x.size = 91 ∧ (pg.toNat : Int) < b.Next := hxk.resolve_left c
    have c3 : ¬ (x.toList == (⟨#[]⟩ : ByteArray).toList) = true := fun h => c ((szE x).mp h)
    obtain ⟨y, e1, e2, e3⟩ := pl_bit x bit hs h3
    rw [if_neg (by omega), if_neg c3, if_neg c3, e1, e2]
    refine ⟨_, rfl, rfl, hL.set ⟨k1, k2, by simpa using k3, fun j hj => ?_⟩, by simp⟩
    simp only [List.getElem_set]
    split
    · rename_i h; subst h; exact .inr ⟨e3, hlt⟩
    · exact k4 j (by simpa using hj)
/-- A fault that fits the geometry. -/
def FPr (g : Geometry) (x : Fault) : Prop :=
  ((x.Kind = 1 ∨ x.Kind = 2) ∧ (0 ≤ x.Block ∧ x.Block < g.Dies * g.Blocks) ∧ (0 ≤ x.Page ∧ x.Page < g.Pages) ∧ (0 ≤ x.Bit ∧ x.Bit ≤ 727)) ∨
  (x.Kind = 3 ∧ (0 ≤ x.Block ∧ x.Block < g.Dies * g.Blocks) ∧ (0 ≤ x.Bit ∧ x.Bit ≤ 727)) ∨
  (x.Kind = 4 ∧ (0 ≤ x.Block ∧ x.Block < g.Dies * g.Blocks)) ∨
  (x.Kind = 5 ∧ (0 ≤ x.Page ∧ x.Page ≤ 1000000) ∧ (0 ≤ x.Bit ∧ x.Bit ≤ 91))
theorem pl_fault (g : Geometry) (hg : GOk g) (x : Fault) : ∃ y, p_spec_ValidFault g x = some y ∧ p_impl_faultOk g x = some y ∧ (y = true → FPr g x) := by
  obtain ⟨z, e, hz⟩ := pl_sGeo g
  have hz1 := hz.mpr hg
  have ha := hg.all
  unfold p_spec_ValidFault p_impl_faultOk p_impl_Geometry_all
  rw [e]
  simp only [callK_some, hz1, if_true, hg.wrap]
  have hw : IntKind.i64.wrap (g.Dies * g.Blocks - 1) = g.Dies * g.Blocks - 1 := wrap_sm _ (by omega) (by omega)
  have hw2 : IntKind.i64.wrap (g.Pages - 1) = g.Pages - 1 := wrap_sm _ (by have := hg.2.2; omega) (by have := hg.2.2; omega)
  simp only [hw, hw2]
  unfold FPr
  have ib : inR x.Block 0 (g.Dies * g.Blocks - 1) = true ↔ 0 ≤ x.Block ∧ x.Block ≤ g.Dies * g.Blocks - 1 := inR_iff _ _ _
  have ip : inR x.Page 0 (g.Pages - 1) = true ↔ 0 ≤ x.Page ∧ x.Page ≤ g.Pages - 1 := inR_iff _ _ _
  have it : inR x.Bit 0 727 = true ↔ 0 ≤ x.Bit ∧ x.Bit ≤ 727 := inR_iff _ _ _
  have iq : inR x.Page 0 1000000 = true ↔ 0 ≤ x.Page ∧ x.Page ≤ 1000000 := inR_iff _ _ _
  have iu : inR x.Bit 0 91 = true ↔ 0 ≤ x.Bit ∧ x.Bit ≤ 91 := inR_iff _ _ _
  generalize inR x.Block 0 (g.Dies * g.Blocks - 1) = b1 at *
  generalize inR x.Page 0 (g.Pages - 1) = p1 at *
  generalize inR x.Bit 0 727 = t1 at *
  generalize inR x.Page 0 1000000 = q1 at *
  generalize inR x.Bit 0 91 = u1 at *
  by_cases k1 : x.Kind = 1
  · simp only [eq_true k1, if_true]
    cases b1 <;> cases p1 <;> simp only [if_true, if_false, Bool.false_eq_true] <;> first | exact ⟨_, rfl, rfl, fun h => by simp at h⟩ | skip
    refine ⟨_, rfl, rfl, fun h => .inl ⟨.inl trivial, ?_, ?_, it.mp h⟩⟩
    · have := ib.mp rfl; omega
    · have := ip.mp rfl; omega
  by_cases k2 : x.Kind = 2
  · simp only [eq_false k1, eq_true k2, if_true, if_false]
    cases b1 <;> cases p1 <;> simp only [if_true, if_false, Bool.false_eq_true] <;> first | exact ⟨_, rfl, rfl, fun h => by simp at h⟩ | skip
    refine ⟨_, rfl, rfl, fun h => .inl ⟨.inr trivial, ?_, ?_, it.mp h⟩⟩
    · have := ib.mp rfl; omega
    · have := ip.mp rfl; omega
  by_cases k3 : x.Kind = 3
  · simp only [eq_false k1, eq_false k2, eq_true k3, if_true, if_false]
    cases b1
    · exact ⟨_, rfl, rfl, fun h => by simp at h⟩
    have hb := ib.mp rfl
    by_cases c2 : x.Page = 0
    · cases t1
      · exact ⟨false, rfl, by rw [if_pos rfl, if_pos c2], fun h => by simp at h⟩
      · exact ⟨true, by simp [c2], by rw [if_pos rfl, if_pos c2], fun _ => .inr (.inl ⟨trivial, by omega, it.mp rfl⟩)⟩
    · cases t1
      · exact ⟨false, rfl, by rw [if_pos rfl, if_neg c2], fun h => by simp at h⟩
      · exact ⟨false, by simp [c2], by rw [if_pos rfl, if_neg c2], fun h => by simp at h⟩
  by_cases k4 : x.Kind = 4
  · simp only [eq_false k1, eq_false k2, eq_false k3, eq_true k4, if_true, if_false]
    cases b1
    · exact ⟨_, rfl, rfl, fun h => by simp at h⟩
    have hb := ib.mp rfl
    by_cases c2 : x.Page = 0
    · exact ⟨_, by rw [if_pos rfl, if_pos c2], by rw [if_pos rfl, if_pos c2], fun _ => .inr (.inr (.inl ⟨trivial, by omega⟩))⟩
    · exact ⟨false, by rw [if_pos rfl, if_neg c2], by rw [if_pos rfl, if_neg c2], fun h => by simp at h⟩
  by_cases k5 : x.Kind = 5
  · simp only [eq_false k1, eq_false k2, eq_false k3, eq_false k4, eq_true k5, if_true, if_false]
    by_cases c1 : x.Block = 0
    · cases q1
      · exact ⟨false, by rw [if_pos c1]; rfl, by rw [if_pos c1]; rfl, fun h => by simp at h⟩
      · exact ⟨_, by rw [if_pos c1, if_pos rfl], by rw [if_pos c1, if_pos rfl], fun h => .inr (.inr (.inr ⟨trivial, iq.mp rfl, iu.mp h⟩))⟩
    · exact ⟨false, by rw [if_neg c1], by rw [if_neg c1], fun h => by simp at h⟩
  · simp only [eq_false k1, eq_false k2, eq_false k3, eq_false k4, eq_false k5, if_false]
    exact ⟨_, rfl, rfl, fun h => by simp at h⟩

theorem pl_step (D B P fu ke : Int) (off : Bool) (ops : Int) (x : Fault) (L : List Block) (hg : GOk ⟨D, B, P⟩) (hn : (L.length : Int) = D * B) (hL : LOk P L) (hx : FPr ⟨D, B, P⟩ x) :
    ∃ fu' ke' L', p_spec_l08Apply D B P fu ke off ops x L = some (fu', ke', L') ∧ LOk P L' ∧ L'.length = L.length ∧
      ((x.Kind ≠ 5 ∨ off = false) → p_impl_Flash_fault x D B P fu ke off ops L = some (0, fu', ke', off, L')) ∧
      (x.Kind = 5 → off = true → ∃ r, p_impl_Flash_fault x D B P fu ke off ops L = some r ∧ r.1 = 8) := by
  have hP : P = 8 ∨ P = 16 := hg.2.2
  have flip := fun (M : List Block) (blk pg bit : Int) (hM : LOk P M) h1 h2 h3 => pl_flip D B P fu ke off ops P blk pg bit M hM h1 h2 h3
  have fin : ∀ {fu' ke' : Int} {L' : List Block}, x.Kind ≠ 5 → p_spec_l08Apply D B P fu ke off ops x L = some (fu', ke', L') → LOk P L' → L'.length = L.length → p_impl_Flash_fault x D B P fu ke off ops L = some (0, fu', ke', off, L') → ∃ fu' ke' L', p_spec_l08Apply D B P fu ke off ops x L = some (fu', ke', L') ∧ LOk P L' ∧ L'.length = L.length ∧
      ((x.Kind ≠ 5 ∨ off = false) → p_impl_Flash_fault x D B P fu ke off ops L = some (0, fu', ke', off, L')) ∧
      (x.Kind = 5 → off = true → ∃ r, p_impl_Flash_fault x D B P fu ke off ops L = some r ∧ r.1 = 8) :=
    fun h5 h1 h2 h3 h4 => ⟨_, _, _, h1, h2, h3, fun _ => h4, fun h => absurd h h5⟩
  rcases hx with ⟨k, hb, hp, ht⟩ | ⟨k, hb, ht⟩ | ⟨k, hb⟩ | ⟨k, hp, ht⟩
  · rcases k with k | k
    · obtain ⟨L', e1, e2, e3, e4⟩ := flip L x.Block x.Page x.Bit hL (by rw [hn]; exact hb) hp ht
      refine fin (by omega) (fu' := fu) (ke' := ke) (L' := L') ?_ e3 e4 ?_
      · unfold p_spec_l08Apply; rw [if_pos k, e1]; rfl
      · unfold p_impl_Flash_fault; rw [if_pos k, e2]; rfl
    · obtain ⟨L', q1, q2, q3⟩ := forI_two (n := P) (R := Int × Int × List Block) (R2 := Int × Int × Int × Bool × List Block)
        (f := fun (i9 : Nat) (v10 : List Block) (nx11 : (List Block) → Option _) =>
          if ¬ (i9 : Int) = x.Page then
            callK (p_spec_l08Flip D B P fu ke off ops x.Block (i9 : Int) x.Bit v10) fun y13 =>
            nx11 y13
          else
            nx11 v10)
        (g := fun (i9 : Nat) (v10 : List Block) (nx11 : (List Block) → Option _) =>
          if ¬ (i9 : Int) = x.Page then
            callK (p_impl_Flash_flip x.Block (i9 : Int) x.Bit D B P fu ke off ops v10) fun y13 =>
            nx11 y13
          else
            nx11 v10) (fun _ M => LOk P M ∧ M.length = L.length) (fun i hi M hM => by
          by_cases c : (i : Int) = x.Page
          · exact ⟨M, fun nx => by rw [if_neg (by simpa using c)], fun nx => by rw [if_neg (by simpa using c)], hM⟩
          · obtain ⟨M', e1, e2, e3, e4⟩ := flip M x.Block i x.Bit hM.1 (by rw [hM.2, hn]; exact hb) (by omega) ht
            exact ⟨M', fun nx => by rw [if_pos c, e1, callK_some], fun nx => by rw [if_pos c, e2, callK_some], e3, e4.trans hM.2⟩) L ⟨hL, rfl⟩
      refine fin (by omega) (fu' := fu) (ke' := ke) (L' := L') ?_ q1.1 q1.2 ?_
      · unfold p_spec_l08Apply; rw [if_neg (by omega), if_pos k, grd_pos (by omega)]; exact q2 _
      · unfold p_impl_Flash_fault; rw [if_neg (by omega), if_pos k, grd_pos (by omega)]; exact q3 _
  · obtain ⟨L', q1, q2, q3⟩ := forI_two (n := P) (R := Int × Int × List Block) (R2 := Int × Int × Int × Bool × List Block)
        (f := fun (i19 : Nat) (v20 : List Block) (nx21 : (List Block) → Option _) =>
          callK (p_spec_l08Flip D B P fu ke off ops x.Block (i19 : Int) (Int.tmod (IntKind.i64.wrap (x.Bit + (IntKind.i64.wrap (8 * (i19 : Int))))) 728) v20) fun y22 =>
          nx21 y22)
        (g := fun (i19 : Nat) (v20 : List Block) (nx21 : (List Block) → Option _) =>
          callK (p_impl_Flash_flip x.Block (i19 : Int) (Int.tmod (IntKind.i64.wrap (x.Bit + (IntKind.i64.wrap (8 * (i19 : Int))))) 728) D B P fu ke off ops v20) fun y22 =>
          nx21 y22) (fun _ M => LOk P M ∧ M.length = L.length) (fun i hi M hM => by
          have hw : IntKind.i64.wrap (8 * (i : Int)) = 8 * (i : Int) := wrap_sm _ (by omega) (by omega)
          have hw2 : IntKind.i64.wrap (x.Bit + 8 * (i : Int)) = x.Bit + 8 * (i : Int) := wrap_sm _ (by omega) (by omega)
          have hm : Int.tmod (x.Bit + 8 * (i : Int)) 728 = (x.Bit + 8 * (i : Int)) % 728 := Int.tmod_eq_emod_of_nonneg (by omega)
          obtain ⟨M', e1, e2, e3, e4⟩ := flip M x.Block i (Int.tmod (IntKind.i64.wrap (x.Bit + (IntKind.i64.wrap (8 * (i : Int))))) 728) hM.1 (by rw [hM.2, hn]; exact hb) (by omega) (by rw [hw, hw2, hm]; omega)
          exact ⟨M', fun nx => by rw [e1, callK_some], fun nx => by rw [e2, callK_some], e3, e4.trans hM.2⟩) L ⟨hL, rfl⟩
    refine fin (by omega) (fu' := fu) (ke' := ke) (L' := L') ?_ q1.1 q1.2 ?_
    · unfold p_spec_l08Apply; rw [if_neg (by omega), if_neg (by omega), if_pos k, grd_pos (by omega)]; exact q2 _
    · unfold p_impl_Flash_fault; rw [if_neg (by omega), if_neg (by omega), if_pos k, grd_pos (by omega)]; exact q3 _
  · have hb' : x.Block < L.length := by rw [hn]; exact hb.2
    have hi : x.Block.toNat < L.length := by omega
    have hbk := hL _ (List.getElem_mem hi)
    refine fin (by omega) (fu' := fu) (ke' := ke) (L' := L.set (Int.toNat x.Block) ⟨L[x.Block.toNat].Erases, L[x.Block.toNat].Next, true, L[x.Block.toNat].Pages⟩) ?_ (hL.set ⟨hbk.1, hbk.2.1, hbk.2.2.1, hbk.2.2.2⟩) (by simp) ?_
    · unfold p_spec_l08Apply; rw [if_neg (by omega), if_neg (by omega), if_neg (by omega), if_pos k, getK_in hb.1 hb']
    · unfold p_impl_Flash_fault; rw [if_neg (by omega), if_neg (by omega), if_neg (by omega), if_pos k, getK_in hb.1 hb']
  · refine ⟨x.Page, x.Bit, L, ?_, hL, rfl, fun h => ?_, fun _ h => ?_⟩
    · unfold p_spec_l08Apply; rw [if_neg (by omega), if_neg (by omega), if_neg (by omega), if_neg (by omega), if_pos k]
    · have hoff : off = false := h.resolve_left (by simp [k])
      unfold p_impl_Flash_fault p_impl_Flash_arm
      rw [if_neg (by omega), if_neg (by omega), if_neg (by omega), if_neg (by omega), if_pos k, hoff, if_neg (by simp), if_pos ((inR_iff _ _ _).mpr (by omega)), if_pos ((inR_iff _ _ _).mpr ht)]
      rfl
    · unfold p_impl_Flash_fault p_impl_Flash_arm
      rw [if_neg (by omega), if_neg (by omega), if_neg (by omega), if_neg (by omega), if_pos k, if_pos h]
      exact ⟨_, rfl, rfl⟩
theorem any_notF {α : Type} (p : α → Bool) (l : List α) : (l.any fun x => !p x) = !l.all p := by
  induction l with
  | nil => rfl
  | cons a l ih => rw [List.any_cons, List.all_cons, ih]; cases p a <;> rfl
theorem pl_script (g : Geometry) (hg : GOk g) (l : List Fault) : ∃ y, p_spec_l08Script g l = some y ∧ p_impl_scriptOk g l = some y ∧ (y = true → l.length ≤ 40 ∧ ∀ x ∈ l, FPr g x) := by
  obtain ⟨z, e, hz⟩ := pl_sGeo g
  have hz1 := hz.mpr hg
  subst hz1
  unfold p_spec_l08Script p_impl_scriptOk
  rw [pl_iGeo, e, callK_some, callK_some, if_pos rfl, if_pos rfl]
  by_cases h : (l.length : Int) > 40
  · rw [if_pos h, if_neg (by omega)]; exact ⟨_, rfl, rfl, fun h => by simp at h⟩
  rw [if_neg h, if_pos (by omega), grd_pos (by omega)]
  obtain ⟨p, hp⟩ : ∃ p : Fault → Bool, ∀ x, p_spec_ValidFault g x = some (p x) ∧ p_impl_faultOk g x = some (p x) ∧ (p x = true → FPr g x) := by
    have := fun x => pl_fault g hg x
    exact ⟨fun x => (this x).choose, fun x => (this x).choose_spec⟩
  have e1 := forK_all (l := l) (f := fun (i9 : Nat) x11 (_ : Unit) (nx10 : Unit → Option Bool) => callK (p_spec_ValidFault g x11) fun y12 => if y12 = true then nx10 () else some false) (k := fun _ => some true) p (some false) (fun i x nx => by rw [(hp x).1, callK_some])
  have e2 : p_slices_ContainsFunc_impl_scriptOk_c1 l g = some (l.any fun x => !p x) := by
    unfold p_slices_ContainsFunc_impl_scriptOk_c1 p_slices_IndexFunc_impl_scriptOk_c1
    rw [grd_pos (by omega)]
    have := forK_idx (f := fun x => p_impl_scriptOk_c1 x g) (p := fun x => !p x) (fun x => by unfold p_impl_scriptOk_c1; rw [(hp x).2.1, callK_some]) l
    rw [this]
    simp only [callK_some, idxP_any]
  rw [e2, callK_some]
  refine ⟨l.all p, ?_, ?_, fun hl => ⟨by omega, fun x hx => (hp x).2.2 (List.all_eq_true.mp hl x hx)⟩⟩
  · rw [show (forK l (fun (i9 : Nat) x11 (_ : Unit) (nx10 : Unit → Option Bool) => callK (p_spec_ValidFault g x11) fun y12 => if y12 = true then nx10 () else some false) () fun _ => some true) = _ from e1]
    cases l.all p <;> rfl
  · rw [any_notF]; simp
theorem pl_own (f : Flash) (hF : Fit f.Blocks) : p_spec_l15Own f = some f.Blocks := by
  have hl := hF.len
  unfold p_spec_l15Own
  rw [grd_pos (by omega)]
  refine forK_rule (fun i (v : List Block) => v = f.Blocks.take i) (fun i hi v hv nx hnx => ?_) (fun v hv => by rw [hv, List.take_length]) _ (by simp)
  have hp := hF.pg (List.getElem_mem hi)
  have hv2 : v.length = i := by rw [hv, List.length_take]; omega
  rw [grd_pos (appOk_of _ _ (by omega)), grd_pos (appOk_of _ _ (by omega))]
  exact hnx _ (by rw [hv, List.take_succ_eq_append_getElem hi])
theorem pl_clone (f : Flash) (hF : Fit f.Blocks) : p_impl_Flash_clone f = some f.Blocks := by
  have hl := hF.len
  unfold p_impl_Flash_clone
  rw [grd_pos (appOk_of _ _ (by omega)), grd_pos (by omega)]
  refine forI_rule (fun i (v : List Block) => v = f.Blocks) (fun i hi v hv nx hnx => ?_) (fun v hv => by subst hv; rw [grd_pos (by rw [Int.toNat_natCast])]) _ rfl
  subst hv
  have hi' : i < f.Blocks.length := by omega
  rw [getK_lt hi', grd_pos (appOk_of _ _ (by have := hF.pg (List.getElem_mem hi'); omega))]
  exact hnx _ (by rw [Int.toNat_natCast, List.set_getElem_self])
theorem pl_cuts (l : List Fault) (h : l.length ≤ 40) : ∃ y, p_spec_l08Cuts l = some y ∧ (y = true ↔ ∃ x ∈ l, x.Kind = 5) := by
  unfold p_spec_l08Cuts
  rw [grd_pos (by omega)]
  refine forK_ex (fun i _ => ∀ (j : Nat) (hj : j < l.length), j < i → l[j].Kind ≠ 5) (fun i hi s hs nx hnx => ?_) (fun s hs => ?_) () (fun j hj h => by omega)
  · by_cases c : l[i].Kind = 5
    · rw [if_pos c]; exact ⟨_, rfl, fun _ => ⟨_, List.getElem_mem hi, c⟩, fun _ => rfl⟩
    · rw [if_neg c]
      exact hnx () fun j hj hlt => by
        by_cases hji : j = i
        · subst hji; exact c
        · exact hs j hj (by omega)
  · refine ⟨_, rfl, fun h => by simp at h, fun ⟨x, hx, hk⟩ => ?_⟩
    obtain ⟨j, hj, rfl⟩ := List.mem_iff_getElem.mp hx
    exact absurd hk (hs j hj hj)
theorem LOk.fit {P : Int} {L : List Block} (h : LOk P L) (hP : P ≤ 16) (hn : L.length ≤ 36) : Fit L := by
  have : cB L ≤ L.length * 16 := by
    clear hn
    induction L with
    | nil => simp [cB_nil]
    | cons b L ih =>
      have h1 := ih fun x hx => h x (by simp [hx])
      have h2 := (h b (by simp)).2.2.1
      rw [cB_cons, List.length_cons]
      omega
  unfold Fit
  omega
/-- Both sides apply a script alike. -/
theorem pl_apply (f : Flash) (l : List Fault) (hF : Fit f.Blocks) : ∃ (h : Flash) (c : Int), p_spec_ApplyFaults f.Geo.Dies f.Geo.Blocks f.Geo.Pages f.Fuse f.Keep f.Off f.Ops f.Blocks l = some (h, c) ∧
    p_impl_ApplyFaults f.Geo.Dies f.Geo.Blocks f.Geo.Pages f.Fuse f.Keep f.Off f.Ops f.Blocks l = some (h.Geo.Dies, h.Geo.Blocks, h.Geo.Pages, h.Fuse, h.Keep, h.Off, h.Ops, c, h.Blocks) ∧ Fit h.Blocks := by
  have fit0 : Fit [] := by unfold Fit; simp [cB_nil]
  obtain ⟨y, e, hy⟩ := pl_sVF f hF
  obtain ⟨y', e', hy'⟩ := pl_iVF f hF
  have hyy : y' = y := by
    have : (y' = true) ↔ (y = true) := hy'.trans hy.symm
    cases y <;> cases y' <;> simp_all
  subst hyy
  unfold p_spec_ApplyFaults p_impl_ApplyFaults
  rw [show (⟨⟨f.Geo.Dies, f.Geo.Blocks, f.Geo.Pages⟩, f.Blocks, f.Fuse, f.Keep, f.Off, f.Ops⟩ : Flash) = f from rfl, show (⟨f.Geo.Dies, f.Geo.Blocks, f.Geo.Pages⟩ : Geometry) = f.Geo from rfl, e, e', callK_some, callK_some]
  by_cases h0 : y' = true
  rotate_left
  · rw [if_neg h0, if_neg h0]; exact ⟨_, _, rfl, rfl, fit0⟩
  obtain ⟨hg, hn, _, _, _, hL⟩ := hy.mp h0
  have hP : f.Geo.Pages ≤ 16 := by have := hg.2.2; omega
  have hall := hg.all
  obtain ⟨z, e1, e2, hz⟩ := pl_script f.Geo hg l
  rw [if_pos h0, if_pos h0, e1, e2, callK_some, callK_some]
  by_cases h1 : z = true
  rotate_left
  · rw [if_neg h1, if_neg h1]; exact ⟨_, _, rfl, rfl, fit0⟩
  obtain ⟨hl40, hfp⟩ := hz h1
  rw [if_pos h1, if_pos h1, pl_clone f hF, callK_some]
  -- in lockstep where no cut meets a device that is off
  have lock : ∀ (off : Bool), (off = true → ∀ x ∈ l, x.Kind ≠ 5) → ∃ s : Int × Int × Int × Int × Int × Bool × Int × List Block, (s.1 = f.Geo.Dies ∧ s.2.1 = f.Geo.Blocks ∧ s.2.2.1 = f.Geo.Pages ∧ s.2.2.2.2.2.1 = off ∧ s.2.2.2.2.2.2.1 = f.Ops ∧ LOk f.Geo.Pages s.2.2.2.2.2.2.2 ∧ s.2.2.2.2.2.2.2.length = f.Blocks.length) ∧
      (∀ k : Int × Int × Int × Int × Int × Bool × Int × List Block → Option (Flash × Int), forK l (fun (i21 : Nat) x31 ((v22, v23, v24, v25, v26, v27, v28, v29) : (Int × Int × Int × Int × Int × Bool × Int × (List Block))) (nx30 : (Int × Int × Int × Int × Int × Bool × Int × (List Block)) → Option _) =>
            callK (p_spec_l08Apply v22 v23 v24 v25 v26 v27 v28 x31 v29) fun y32 =>
            nx30 (v22, v23, v24, y32.1, y32.2.1, v27, v28, y32.2.2)) (f.Geo.Dies, f.Geo.Blocks, f.Geo.Pages, f.Fuse, f.Keep, off, f.Ops, f.Blocks) k = k s) ∧
      (∀ k : Int × Int × Int × Int × Int × Bool × Int × List Block → Option (Int × Int × Int × Int × Int × Bool × Int × Int × List Block), forK l (fun (i19 : Nat) x29 ((v20, v21, v22, v23, v24, v25, v26, v27) : (Int × Int × Int × Int × Int × Bool × Int × (List Block))) (nx28 : (Int × Int × Int × Int × Int × Bool × Int × (List Block)) → Option _) =>
        callK (p_impl_Flash_fault x29 v20 v21 v22 v23 v24 v25 v26 v27) fun y30 =>
        if ¬ y30.1 = 0 then
          some ((0, 0, 0, 0, 0, false, 0, y30.1, ([] : List Block)) : Int × Int × Int × Int × Int × Bool × Int × Int × List Block)
        else
          nx28 (v20, v21, v22, y30.2.1, y30.2.2.1, y30.2.2.2.1, v26, y30.2.2.2.2)) (f.Geo.Dies, f.Geo.Blocks, f.Geo.Pages, f.Fuse, f.Keep, off, f.Ops, f.Blocks) k = k s) := by
    intro off hoff
    refine forK_two (fun _ (s : Int × Int × Int × Int × Int × Bool × Int × List Block) => s.1 = f.Geo.Dies ∧ s.2.1 = f.Geo.Blocks ∧ s.2.2.1 = f.Geo.Pages ∧ s.2.2.2.2.2.1 = off ∧ s.2.2.2.2.2.2.1 = f.Ops ∧ LOk f.Geo.Pages s.2.2.2.2.2.2.2 ∧ s.2.2.2.2.2.2.2.length = f.Blocks.length) (fun i hi s hs => ?_) _ ⟨rfl, rfl, rfl, rfl, rfl, hL, rfl⟩
    obtain ⟨D, B, P, fu, ke, o, ops, L⟩ := s
    obtain ⟨rfl, rfl, rfl, rfl, rfl, g1, g2⟩ := hs
    dsimp only at g1 g2
    have hm := List.getElem_mem hi
    obtain ⟨fu', ke', L', q1, q2, q3, q4, _⟩ := pl_step f.Geo.Dies f.Geo.Blocks f.Geo.Pages fu ke o f.Ops l[i] L hg (by rw [g2]; exact hn) g1 (hfp _ hm)
    have q5 := q4 (by
      cases o
      · exact .inr rfl
      · exact .inl (hoff rfl _ hm))
    refine ⟨(f.Geo.Dies, f.Geo.Blocks, f.Geo.Pages, fu', ke', o, f.Ops, L'), fun nx => ?_, fun nx => ?_, rfl, rfl, rfl, rfl, rfl, q2, q3.trans g2⟩
    · dsimp only; rw [q1, callK_some]
    · dsimp only; rw [q5, callK_some, if_neg (by simp)]
  have done : ∀ (s : Int × Int × Int × Int × Int × Bool × Int × List Block), LOk f.Geo.Pages s.2.2.2.2.2.2.2 → s.2.2.2.2.2.2.2.length = f.Blocks.length → Fit s.2.2.2.2.2.2.2 := fun s h1 h2 => h1.fit hP (by omega)
  by_cases h2 : f.Off = true
  · obtain ⟨q, e3, hq⟩ := pl_cuts l hl40
    rw [if_pos h2, e3, callK_some]
    by_cases h3 : q = true
    · rw [if_pos h3, grd_pos (by omega)]
      refine ⟨_, _, rfl, ?_, fit0⟩
      refine forK_rule (fun i (s : Int × Int × Int × Int × Int × Bool × Int × List Block) => (s.1 = f.Geo.Dies ∧ s.2.1 = f.Geo.Blocks ∧ s.2.2.1 = f.Geo.Pages ∧ s.2.2.2.2.2.1 = true ∧ s.2.2.2.2.2.2.1 = f.Ops ∧ LOk f.Geo.Pages s.2.2.2.2.2.2.2 ∧ s.2.2.2.2.2.2.2.length = f.Blocks.length) ∧ ∀ (j : Nat) (hj : j < l.length), j < i → l[j].Kind ≠ 5)
        (fun i hi s hs nx hnx => ?_) (fun s hs => ?_) _ ⟨⟨rfl, rfl, rfl, h2, rfl, hL, rfl⟩, fun j hj h => by omega⟩
      · obtain ⟨D, B, P, fu, ke, o, ops, L⟩ := s
        obtain ⟨⟨rfl, rfl, rfl, rfl, rfl, g1, g2⟩, g3⟩ := hs
        dsimp only at g1 g2
        have hm := List.getElem_mem hi
        obtain ⟨fu', ke', L', q1, q2, q3, q4, q5⟩ := pl_step f.Geo.Dies f.Geo.Blocks f.Geo.Pages fu ke true f.Ops l[i] L hg (by rw [g2]; exact hn) g1 (hfp _ hm)
        dsimp only
        by_cases c : l[i].Kind = 5
        · obtain ⟨r, e4, e5⟩ := q5 c rfl
          rw [e4, callK_some, if_pos (by omega), e5]
        · rw [q4 (.inl c), callK_some, if_neg (by simp)]
          refine hnx _ ⟨⟨rfl, rfl, rfl, rfl, rfl, q2, q3.trans g2⟩, fun j hj hlt => ?_⟩
          by_cases hji : j = i
          · subst hji; exact c
          · exact g3 j hj (by omega)
      · exfalso
        obtain ⟨x, hx, hk⟩ := hq.mp h3
        obtain ⟨j, hj, rfl⟩ := List.mem_iff_getElem.mp hx
        exact hs.2 j hj hj hk
    · obtain ⟨s, ⟨s1, s2, s3, s4, s5, s6, s7⟩, p1, p2⟩ := lock true (fun _ x hx hk => h3 (hq.mpr ⟨x, hx, hk⟩))
      rw [if_neg h3, show (⟨⟨f.Geo.Dies, f.Geo.Blocks, f.Geo.Pages⟩, f.Blocks, f.Fuse, f.Keep, true, f.Ops⟩ : Flash) = f by rw [← h2], pl_own f hF, callK_some, grd_pos (by omega), grd_pos (by omega), h2]
      refine ⟨⟨⟨s.1, s.2.1, s.2.2.1⟩, s.2.2.2.2.2.2.2, s.2.2.2.1, s.2.2.2.2.1, s.2.2.2.2.2.1, s.2.2.2.2.2.2.1⟩, 0, ?_, ?_, done s s6 s7⟩
      · exact p1 _
      · exact p2 _
  · have h2' : f.Off = false := by simpa using h2
    obtain ⟨s, ⟨s1, s2, s3, s4, s5, s6, s7⟩, p1, p2⟩ := lock false (fun h => by simp at h)
    rw [if_neg h2, show (⟨⟨f.Geo.Dies, f.Geo.Blocks, f.Geo.Pages⟩, f.Blocks, f.Fuse, f.Keep, false, f.Ops⟩ : Flash) = f by rw [← h2'], pl_own f hF, callK_some, grd_pos (by omega), grd_pos (by omega), h2']
    refine ⟨⟨⟨s.1, s.2.1, s.2.2.1⟩, s.2.2.2.2.2.2.2, s.2.2.2.1, s.2.2.2.2.1, s.2.2.2.2.2.1, s.2.2.2.2.2.2.1⟩, 0, ?_, ?_, done s s6 s7⟩
    · exact p1 _
    · exact p2 _

/-! ### Scripts of faults: sizes, copies, comparison, marks -/
theorem pl_szFs (l : List Fault) (n : Int) (hl : okL okFault l) (hn : 0 ≤ n ∧ n ≤ 1048576) : ∃ r, p_laws_szFaultS l n = some r ∧ (r < 0 ∨ (0 ≤ r ∧ r + l.length ≤ n)) := by
  unfold p_laws_szFaultS
  have h1 := hl.1
  have hw : IntKind.i64.wrap (n - (l.length : Int)) = n - (l.length : Int) := wrap_sm _ (by omega) (by omega)
  rw [hw]
  by_cases h0 : n - (l.length : Int) < 0
  · rw [if_pos h0]; exact ⟨_, rfl, .inl (by omega)⟩
  · rw [if_neg h0]; exact ⟨_, rfl, .inr (by omega)⟩
theorem pl_toFs (l : List Fault) (hl : l.length ≤ 1048576) : p_laws_toFaultS l = some l := by
  unfold p_laws_toFaultS
  rw [grd_pos (mkOk_nat _ _ _ (by omega) rfl rfl), grd_pos (by omega), Int.toNat_natCast]
  refine forK_rule (fun i (v : List Fault) => v.length = l.length ∧ v.take i = l.take i) (fun i hi v hv nx hnx => ?_) (fun v hv => ?_) _ ⟨by simp, by simp⟩
  · have e : p_laws_toFault l[i] = some () := rfl
    rw [e, callK_some, getK_lt (by omega), Int.toNat_natCast]
    refine hnx _ ⟨by simpa using hv.1, ?_⟩
    rw [List.take_succ_eq_append_getElem (by simp; omega), List.take_set_of_le (by omega), hv.2, List.take_succ_eq_append_getElem hi, List.getElem_set_self]
  · have h1 : v.take l.length = v := List.take_of_length_le (by omega)
    have h2 := hv.2
    rw [h1, List.take_length] at h2
    rw [h2]
theorem pl_eqFs (l : List Fault) (h : l.length ≤ 1048576) : p_laws_eqFaultS l l = some true := by
  unfold p_laws_eqFaultS
  rw [if_neg (by simp), grd_pos (by omega)]
  refine forK_rule (fun _ _ => True) (fun i hi s _ nx hnx => ?_) (fun s _ => rfl) () trivial
  have e : p_laws_eqFault l[i] l[i] = some true := by unfold p_laws_eqFault; simp
  rw [getK_lt hi, e, callK_some, if_pos rfl]
  exact hnx () trivial
theorem pl_markFs (k : Int) (l : List Fault) (hk : 0 ≤ k ∧ k ≤ 100000000) (hl : l.length ≤ 1048576) : ∃ r, p_laws_markFaultS k l = some r ∧ 0 ≤ r.1 := by
  unfold p_laws_markFaultS
  refine iterK_ex (fun d (s : Int × Int × List Fault) => ∃ i : Nat, s.1 = k + 4 * i ∧ s.2.1 = i ∧ i + d = l.length ∧ s.2.2.length = l.length) ?_ l.length _ (by unfold NN; omega) ⟨0, by simp, rfl, by omega, rfl⟩
  rintro d ⟨v1, v2, v3⟩ ⟨i, g1, g2, g3, g4⟩ nx hnx
  dsimp only at g1 g2 g4 hnx ⊢
  subst g2
  by_cases hi : i < l.length
  · have e2 : v1 + 1 + 1 = v1 + 2 := by omega
    have e3 : v1 + 2 + 1 = v1 + 3 := by omega
    have e4 : v1 + 3 + 1 = v1 + 4 := by omega
    have q1 := w1 v1 (by omega)
    have q2 : IntKind.i64.wrap (v1 + 2) = v1 + 2 := wrap_sm _ (by omega) (by omega)
    have q3 : IntKind.i64.wrap (v1 + 3) = v1 + 3 := wrap_sm _ (by omega) (by omega)
    have q4 : IntKind.i64.wrap (v1 + 4) = v1 + 4 := wrap_sm _ (by omega) (by omega)
    have hv : i < v3.length := by omega
    rw [if_pos (by omega), getK_lt hv]
    simp only [Int.toNat_natCast, q1, e2, q2, e3, q3, e4, q4, List.set_set, getK_set hv]
    rw [wrap_sm ((i : Int) + 1) (by omega) (by omega)]
    exact hnx (d - 1) _ (by omega) ⟨i + 1, by dsimp only; omega, by dsimp only; omega, by omega, by simpa using g4⟩
  · rw [if_neg (by omega)]
    exact ⟨_, rfl, by dsimp only; omega⟩

theorem pl_law (x : Flash) (l : List Fault) (hx : okFlash x) (hl : okL okFault l) : p_laws_FnExactApplyFaults x l = some true := by
  unfold p_laws_FnExactApplyFaults
  obtain ⟨r, e, hr⟩ := pl_szF x hx
  rw [e, callK_some]
  by_cases h0 : r < 0
  · rw [if_pos h0]
  obtain ⟨_, _, hF⟩ := hr.resolve_left h0
  obtain ⟨r2, e2', hr2⟩ := pl_szFs l r hl (by omega)
  rw [if_neg h0, e2', callK_some]
  by_cases h1 : r2 < 0
  · rw [if_pos h1]
  have hll : l.length ≤ 1048576 := by have := hr2.resolve_left h1; omega
  obtain ⟨h, c, e1, e2, hFh⟩ := pl_apply x l hF
  have hge := mEnd_ge 1 x.Blocks
  have hge2 := mEnd_ge 1 h.Blocks
  have hle : mEnd 1 x.Blocks ≤ 1 + 4194304 := by
    have := mEnd_le 1 x.Blocks hF x.Blocks.length
    rwa [List.take_length] at this
  obtain ⟨m, e3, hm⟩ := pl_markFs (mEnd 1 x.Blocks) l (by omega) hll
  rw [if_neg h1]
  simp only [pl_toF x hF, pl_toFs l hll, pl_eqFs l hll, e1, e2, e3, callK_some, pl_eqF h hFh, pl_eqF x hF, pl_eqF ⟨x.Geo, x.Blocks, x.Fuse, x.Keep, x.Off, x.Ops⟩ hF, if_true, not_true_eq_false, if_false, pl_markF x.Geo.Dies x.Geo.Blocks x.Geo.Pages x.Fuse x.Keep x.Off x.Ops 1 x.Blocks (by omega) hF,
    pl_markF h.Geo.Dies h.Geo.Blocks h.Geo.Pages h.Fuse h.Keep h.Off h.Ops 1 h.Blocks (by omega) hFh, pl_heldF ⟨⟨h.Geo.Dies, h.Geo.Blocks, h.Geo.Pages⟩, mBs 1 h.Blocks, h.Fuse, h.Keep, h.Off, h.Ops⟩ 1 h.Blocks rfl (by omega) hFh]
  rw [if_neg (by omega), if_neg (by omega), if_neg (by omega)]
theorem f_law (x : Flash) (l : List Fault) (hx : okFlash x) (hl : okL okFault l) : callL E 5 [vFlash x, .d (.arr (l.map rFault))] [] = some (BO true, []) := L_laws_FnExactApplyFaults x l (pl_law x l hx hl)

end Go.Proofs.Ytjnhclnnobejgaa.T02

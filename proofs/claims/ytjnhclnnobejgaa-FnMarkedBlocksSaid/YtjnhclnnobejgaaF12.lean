/- FnMarkedBlocks: what its functions come to, and the row; conditions: none. -/
import Derived.Test.YtjnhclnnobejgaaT12
import Derived.Test.YtjnhclnnobejgaaEz
import Derived.Test.YtjnhclnnobejgaaRows
import Derived.WalkKit
import Derived.ProofKit
import Derived.OpenShut
import Derived.ShutString
import Derived.ChangeOld
import Derived.Below
import Derived.SizedLaws
import Derived.Test.YtjnhclnnobejgaaF12a
namespace Go.Proofs.Ytjnhclnnobejgaa.T12
open Go.Proofs.YtjnhclnnobejgaaE
set_option maxRecDepth 100000
set_option linter.unusedVariables false
set_option linter.unusedSimpArgs false
set_option maxHeartbeats 4000000 in
theorem L_spec_l07Draw (a_0 : Sl00Src) {r : (Int × Int × Int × Int × Sl00Src × (List Int) × (List Int))} (h : p_spec_l07Draw a_0 = some r) : callL E 135 [.bp 0 0] ([some (.box [.d (.arr (a_0.Code.map rU)), IN a_0.At, .d (.lit (.int .u64 a_0.Seed))])] : Fo) = some (.agg [IN r.1, IN r.2.1, IN r.2.2.1, IN r.2.2.2.1, .sl 1, .sl 2], ([some (.box [.d (.arr (r.2.2.2.2.1.Code.map rU)), IN r.2.2.2.2.1.At, .d (.lit (.int .u64 r.2.2.2.2.1.Seed))]), some (.arr 2 1 (r.2.2.2.2.2.1.map rI)), some (.arr 2 1 (r.2.2.2.2.2.2.map rI))] : Fo)) := by
  unfold p_spec_l07Draw at h
  refine callW (fu := Try.f135) rfl rfl rfl NN ?_
  intro lp cl hlp hcl
  conv => lhs; whnf
  obtain ⟨y1, h_y1, h⟩ := callK_inv h
  rw [cl_eq hcl (L_spec_l07Geo a_0 h_y1)]
  rotate_left
  · show _ = _; kernel_rfl
  · show _ = _; kernel_rfl
  conv => lhs; whnf
  refine loop_iter hlp (fun ((v2, v3, v4) : (Int × Sl00Src × (List Int))) => ([.bp 0 0, .dead, .bp 1 0, .bp 2 0, .sl 3, IN v2] ++ List.replicate 107 .dead : List V)) (fun ((v2, v3, v4) : (Int × Sl00Src × (List Int))) => ([some (.box [.d (.arr (v3.Code.map rU)), IN v3.At, .d (.lit (.int .u64 v3.Seed))]), some (.box [IN 0, IN 0, IN 0, IN 0, .d (.arr (([] : List Int).map rI)), .d (.arr (([] : List Int).map rI))]), some (.box [IN y1.1.Dies, IN y1.1.Blocks, IN y1.1.Pages]), some (.arr 2 1 (v4.map rI))] : Fo)) (fun (r : (Int × Int × Int × Int × Sl00Src × (List Int) × (List Int))) => ((.agg [IN r.1, IN r.2.1, IN r.2.2.1, IN r.2.2.2.1, .sl 1, .sl 2] : V), ([some (.box [.d (.arr (r.2.2.2.2.1.Code.map rU)), IN r.2.2.2.2.1.At, .d (.lit (.int .u64 r.2.2.2.2.1.Seed))]), some (.arr 2 1 (r.2.2.2.2.2.1.map rI)), some (.arr 2 1 (r.2.2.2.2.2.2.map rI))] : Fo))) ?_ (0, y1.2, ([] : List Int)) _ (fun kk => by kernel_rfl) h
  clear h
  rintro next_nx5 nx5 hnx5 ⟨v2, v3, v4⟩ r h
  try dsimp only at h
  conv => lhs; whnf
  obtain ⟨y6, h_y6, h⟩ := callK_inv h
  rw [cl_eq hcl (L_spec_l07Count y1.1 h_y6)]
  rotate_left
  · show _ = _; kernel_rfl
  · show _ = _; kernel_rfl
  conv => lhs; whnf
  cases hb7 : (decide (v2 < y6))
  · replace h := ifF h (decF hb7); conv => lhs; whnf
    obtain ⟨y10, h_y10, h⟩ := callK_inv h
    rw [cl_eq hcl (L_spec_l00Src_pick 2 v3 h_y10)]
    rotate_left
    · show _ = _; kernel_rfl
    · show _ = _; kernel_rfl
    conv => lhs; whnf
    obtain ⟨y11, h_y11, h⟩ := callK_inv h
    rw [cl_eq hcl (L_spec_NewBadTable y1.1 (IntKind.i64.wrap (1 + y10.1)) v4 h_y11)]
    rotate_left
    · show _ = _; kernel_rfl
    · show _ = _; kernel_rfl
    conv => lhs; whnf
    cases hb12 : (y11.2.2.2.2.1 != 0)
    · replace h := ifF h ((fun h => not_not_intro (bneF h)) hb12); conv => lhs; whnf
      obtain ⟨y45, h_y45, h⟩ := callK_inv h
      rw [cl_eq hcl (L_spec_l00Src_pick 4 y10.2 h_y45)]
      rotate_left
      · show _ = _; kernel_rfl
      · show _ = _; kernel_rfl
      conv => lhs; whnf
      refine loop_iter hlp (fun ((v46, v47, v48, v49, v50, v51, v52, v53) : (Int × Sl00Src × Int × Int × Int × Int × (List Int) × (List Int))) => ([.bp 0 0, .dead, .bp 1 0, .bp 2 0, .dead, .dead, .bp 3 0, .dead, IN v46] ++ List.replicate 104 .dead : List V)) (fun ((v46, v47, v48, v49, v50, v51, v52, v53) : (Int × Sl00Src × Int × Int × Int × Int × (List Int) × (List Int))) => ([some (.box [.d (.arr (v47.Code.map rU)), IN v47.At, .d (.lit (.int .u64 v47.Seed))]), some (.box [IN 0, IN 0, IN 0, IN 0, .d (.arr (([] : List Int).map rI)), .d (.arr (([] : List Int).map rI))]), some (.box [IN y1.1.Dies, IN y1.1.Blocks, IN y1.1.Pages]), some (.box [IN v48, IN v49, IN v50, IN v51, .sl 4, .sl 5]), some (.arr 2 1 (v52.map rI)), some (.arr 2 1 (v53.map rI))] : Fo)) (fun (r : (Int × Int × Int × Int × Sl00Src × (List Int) × (List Int))) => ((.agg [IN r.1, IN r.2.1, IN r.2.2.1, IN r.2.2.2.1, .sl 1, .sl 2] : V), ([some (.box [.d (.arr (r.2.2.2.2.1.Code.map rU)), IN r.2.2.2.2.1.At, .d (.lit (.int .u64 r.2.2.2.2.1.Seed))]), some (.arr 2 1 (r.2.2.2.2.2.1.map rI)), some (.arr 2 1 (r.2.2.2.2.2.2.map rI))] : Fo))) ?_ (y45.1, y45.2, y11.1, y11.2.1, y11.2.2.1, y11.2.2.2.1, y11.2.2.2.2.2.1, y11.2.2.2.2.2.2) _ (fun kk => by kernel_rfl) h
      clear h
      rintro next_nx54 nx54 hnx54 ⟨v46, v47, v48, v49, v50, v51, v52, v53⟩ r h
      try dsimp only at h
      conv => lhs; whnf
      cases hb55 : (decide (v46 > 0))
      · replace h := ifF h (decF hb55); conv => lhs; whnf
        obtain ⟨y60, h_y60, h⟩ := callK_inv h
        rw [cl_eq hcl (L_spec_l00Src_one 10 v47 h_y60)]
        rotate_left
        · show _ = _; kernel_rfl
        · show _ = _; kernel_rfl
        conv => lhs; whnf
        cases hb61 : y60.1
        · replace h := ifF h (booF hb61); conv => lhs; whnf
          obtain rfl := Option.some.inj h; show _ = _; kernel_rfl

        · replace h := ifT h hb61; conv => lhs; whnf
          obtain ⟨y62, h_y62, h⟩ := callK_inv h
          rw [cl_eq hcl (L_spec_l00Src_pick 4 y60.2 h_y62)]
          rotate_left
          · show _ = _; kernel_rfl
          · show _ = _; kernel_rfl
          conv => lhs; whnf
          cases hb63 : (y62.1 == 0)
          · replace h := ifF h (beqF hb63); conv => lhs; whnf
            cases hb65 : (y62.1 == 1)
            · replace h := ifF h (beqF hb65); conv => lhs; whnf
              cases hb67 : (y62.1 == 2)
              · replace h := ifF h (beqF hb67); conv => lhs; whnf
                cases hb73 : (y62.1 == 3)
                · replace h := ifF h (beqF hb73); conv => lhs; whnf
                  obtain rfl := Option.some.inj h; show _ = _; kernel_rfl

                · replace h := ifT h (beqT hb73); conv => lhs; whnf
                  obtain ⟨y74, h_y74, h⟩ := callK_inv h
                  rw [cl_eq hcl (L_spec_l00Src_among' y62.2 ([1, 3, 4] : List Int) h_y74)]
                  rotate_left
                  · show _ = _; kernel_rfl
                  · show _ = _; kernel_rfl
                  conv => lhs; whnf
                  obtain rfl := Option.some.inj h; show _ = _; kernel_rfl

              · replace h := ifT h (beqT hb67); conv => lhs; whnf
                try rw [len_of (l := v53) (r := rI)]
                cases hb68 : (decide ((v53.length : Int) > 0))
                · replace h := ifF h (decF hb68); conv => lhs; whnf
                  obtain rfl := Option.some.inj h; show _ = _; kernel_rfl

                · replace h := ifT h (decT hb68); conv => lhs; whnf
                  try rw [len_of (l := v53) (r := rI)]
                  obtain ⟨y69, h_y69, h⟩ := callK_inv h
                  rw [cl_eq hcl (L_spec_l00Src_pick (v53.length : Int) y62.2 h_y69)]
                  rotate_left
                  · show _ = _; kernel_rfl
                  · show _ = _; kernel_rfl
                  conv => lhs; whnf
                  obtain ⟨y70, h_y70, h⟩ := callK_inv h
                  rw [cl_eq hcl (L_spec_l07Count y1.1 h_y70)]
                  rotate_left
                  · show _ = _; kernel_rfl
                  · show _ = _; kernel_rfl
                  conv => lhs; whnf
                  obtain ⟨y71, h_y71, h⟩ := callK_inv h
                  rw [cl_eq hcl (L_spec_l00Src_pick y70 y69.2 h_y71)]
                  rotate_left
                  · show _ = _; kernel_rfl
                  · show _ = _; kernel_rfl
                  conv => lhs; whnf
                  obtain ⟨x72, hq_x72, hx_x72', h⟩ := getK_inv h
                  have hx_x72 := get_of (r := rI) hx_x72'
                  try (rw [decide_eq_true hq_x72]; conv => lhs; whnf)
                  rw [hx_x72]
                  conv => lhs; whnf
                  rw [hx_x72]
                  conv => lhs; whnf
                  first | (rw [map_set_of (r := rI) (l := v53) (x := y71.1) ?hh]; case hh => exact rfl) | skip
                  obtain rfl := Option.some.inj h; show _ = _; kernel_rfl

            · replace h := ifT h (beqT hb65); conv => lhs; whnf
              obtain ⟨y66, h_y66, h⟩ := callK_inv h
              rw [cl_eq hcl (L_spec_l00Src_among' y62.2 ([(-1), 0, 50] : List Int) h_y66)]
              rotate_left
              · show _ = _; kernel_rfl
              · show _ = _; kernel_rfl
              conv => lhs; whnf
              obtain ⟨hg75, h⟩ := grd_inv h
              rw [app_eq hg75 ?h1 ?h2]
              case h1 => first | exact rfl | (simp only [List.length_map, List.length_cons, List.length_nil]; done) | (rw [List.length_map]; rfl)
              case h2 => exact rfl
              conv => lhs; whnf
              first | (rw [map_app_of (r := rI) (l := v52) (m := ([y66.1] : List Int)) ?hh]; case hh => exact rfl) | skip
              obtain rfl := Option.some.inj h; show _ = _; kernel_rfl

          · replace h := ifT h (beqT hb63); conv => lhs; whnf
            obtain ⟨y64, h_y64, h⟩ := callK_inv h
            rw [cl_eq hcl (L_spec_l00Src_among' y62.2 ([0, (IntKind.i64.wrap (v49 - 1)), 4, 5] : List Int) h_y64)]
            rotate_left
            · show _ = _; kernel_rfl
            · show _ = _; kernel_rfl
            conv => lhs; whnf
            obtain rfl := Option.some.inj h; show _ = _; kernel_rfl

      · replace h := ifT h (decT hb55); conv => lhs; whnf
        obtain ⟨y56, h_y56, h⟩ := callK_inv h
        rw [cl_eq hcl (L_spec_l07Count y1.1 h_y56)]
        rotate_left
        · show _ = _; kernel_rfl
        · show _ = _; kernel_rfl
        conv => lhs; whnf
        obtain ⟨y57, h_y57, h⟩ := callK_inv h
        rw [cl_eq hcl (L_spec_l00Src_pick y56 v47 h_y57)]
        rotate_left
        · show _ = _; kernel_rfl
        · show _ = _; kernel_rfl
        conv => lhs; whnf
        obtain ⟨y58, h_y58, h⟩ := callK_inv h
        rw [cl_eq hcl (L_spec_RetireBlock v48 v49 v50 v51 y57.1 v52 v53 h_y58)]
        rotate_left
        · show _ = _; kernel_rfl
        · show _ = _; kernel_rfl
        conv => lhs; whnf
        cases hb59 : (y58.2.2.2.2.1 == 0)
        · replace h := ifF h (beqF hb59); conv => lhs; whnf
          exact hnx54 _ _ _ _ (fun kk => by kernel_rfl) h
        · replace h := ifT h (beqT hb59); conv => lhs; whnf
          exact hnx54 _ _ _ _ (fun kk => by kernel_rfl) h
    · replace h := ifT h (bneT hb12); conv => lhs; whnf
      obtain ⟨y13, h_y13, h⟩ := callK_inv h
      rw [cl_eq hcl (L_spec_l00Src_pick 2 y10.2 h_y13)]
      rotate_left
      · show _ = _; kernel_rfl
      · show _ = _; kernel_rfl
      conv => lhs; whnf
      obtain ⟨y14, h_y14, h⟩ := callK_inv h
      rw [cl_eq hcl (L_spec_NewBadTable' y1.1 (IntKind.i64.wrap (1 + y13.1)) ([] : List Int) h_y14)]
      rotate_left
      · show _ = _; kernel_rfl
      · show _ = _; kernel_rfl
      conv => lhs; whnf
      obtain ⟨y15, h_y15, h⟩ := callK_inv h
      rw [cl_eq hcl (L_spec_l00Src_pick 4 y13.2 h_y15)]
      rotate_left
      · show _ = _; kernel_rfl
      · show _ = _; kernel_rfl
      conv => lhs; whnf
      refine loop_iter hlp (fun ((v16, v17, v18, v19, v20, v21, v22, v23) : (Int × Sl00Src × Int × Int × Int × Int × (List Int) × (List Int))) => ([.bp 0 0, .dead, .bp 1 0, .bp 2 0, .dead, .dead, .bp 3 0, .dead, IN v16] ++ List.replicate 104 .dead : List V)) (fun ((v16, v17, v18, v19, v20, v21, v22, v23) : (Int × Sl00Src × Int × Int × Int × Int × (List Int) × (List Int))) => ([some (.box [.d (.arr (v17.Code.map rU)), IN v17.At, .d (.lit (.int .u64 v17.Seed))]), some (.box [IN 0, IN 0, IN 0, IN 0, .d (.arr (([] : List Int).map rI)), .d (.arr (([] : List Int).map rI))]), some (.box [IN y1.1.Dies, IN y1.1.Blocks, IN y1.1.Pages]), some (.box [IN v18, IN v19, IN v20, IN v21, .sl 4, .sl 5]), some (.arr 2 1 (v22.map rI)), some (.arr 2 1 (v23.map rI))] : Fo)) (fun (r : (Int × Int × Int × Int × Sl00Src × (List Int) × (List Int))) => ((.agg [IN r.1, IN r.2.1, IN r.2.2.1, IN r.2.2.2.1, .sl 1, .sl 2] : V), ([some (.box [.d (.arr (r.2.2.2.2.1.Code.map rU)), IN r.2.2.2.2.1.At, .d (.lit (.int .u64 r.2.2.2.2.1.Seed))]), some (.arr 2 1 (r.2.2.2.2.2.1.map rI)), some (.arr 2 1 (r.2.2.2.2.2.2.map rI))] : Fo))) ?_ (y15.1, y15.2, y14.1, y14.2.1, y14.2.2.1, y14.2.2.2.1, y14.2.2.2.2.2.1, y14.2.2.2.2.2.2) _ (fun kk => by kernel_rfl) h
      clear h
      rintro next_nx24 nx24 hnx24 ⟨v16, v17, v18, v19, v20, v21, v22, v23⟩ r h
      try dsimp only at h
      conv => lhs; whnf
      cases hb25 : (decide (v16 > 0))
      · replace h := ifF h (decF hb25); conv => lhs; whnf
        obtain ⟨y30, h_y30, h⟩ := callK_inv h
        rw [cl_eq hcl (L_spec_l00Src_one 10 v17 h_y30)]
        rotate_left
        · show _ = _; kernel_rfl
        · show _ = _; kernel_rfl
        conv => lhs; whnf
        cases hb31 : y30.1
        · replace h := ifF h (booF hb31); conv => lhs; whnf
          obtain rfl := Option.some.inj h; show _ = _; kernel_rfl

        · replace h := ifT h hb31; conv => lhs; whnf
          obtain ⟨y32, h_y32, h⟩ := callK_inv h
          rw [cl_eq hcl (L_spec_l00Src_pick 4 y30.2 h_y32)]
          rotate_left
          · show _ = _; kernel_rfl
          · show _ = _; kernel_rfl
          conv => lhs; whnf
          cases hb33 : (y32.1 == 0)
          · replace h := ifF h (beqF hb33); conv => lhs; whnf
            cases hb35 : (y32.1 == 1)
            · replace h := ifF h (beqF hb35); conv => lhs; whnf
              cases hb37 : (y32.1 == 2)
              · replace h := ifF h (beqF hb37); conv => lhs; whnf
                cases hb43 : (y32.1 == 3)
                · replace h := ifF h (beqF hb43); conv => lhs; whnf
                  obtain rfl := Option.some.inj h; show _ = _; kernel_rfl

                · replace h := ifT h (beqT hb43); conv => lhs; whnf
                  obtain ⟨y44, h_y44, h⟩ := callK_inv h
                  rw [cl_eq hcl (L_spec_l00Src_among' y32.2 ([1, 3, 4] : List Int) h_y44)]
                  rotate_left
                  · show _ = _; kernel_rfl
                  · show _ = _; kernel_rfl
                  conv => lhs; whnf
                  obtain rfl := Option.some.inj h; show _ = _; kernel_rfl

              · replace h := ifT h (beqT hb37); conv => lhs; whnf
                try rw [len_of (l := v23) (r := rI)]
                cases hb38 : (decide ((v23.length : Int) > 0))
                · replace h := ifF h (decF hb38); conv => lhs; whnf
                  obtain rfl := Option.some.inj h; show _ = _; kernel_rfl

                · replace h := ifT h (decT hb38); conv => lhs; whnf
                  try rw [len_of (l := v23) (r := rI)]
                  obtain ⟨y39, h_y39, h⟩ := callK_inv h
                  rw [cl_eq hcl (L_spec_l00Src_pick (v23.length : Int) y32.2 h_y39)]
                  rotate_left
                  · show _ = _; kernel_rfl
                  · show _ = _; kernel_rfl
                  conv => lhs; whnf
                  obtain ⟨y40, h_y40, h⟩ := callK_inv h
                  rw [cl_eq hcl (L_spec_l07Count y1.1 h_y40)]
                  rotate_left
                  · show _ = _; kernel_rfl
                  · show _ = _; kernel_rfl
                  conv => lhs; whnf
                  obtain ⟨y41, h_y41, h⟩ := callK_inv h
                  rw [cl_eq hcl (L_spec_l00Src_pick y40 y39.2 h_y41)]
                  rotate_left
                  · show _ = _; kernel_rfl
                  · show _ = _; kernel_rfl
                  conv => lhs; whnf
                  obtain ⟨x42, hq_x42, hx_x42', h⟩ := getK_inv h
                  have hx_x42 := get_of (r := rI) hx_x42'
                  try (rw [decide_eq_true hq_x42]; conv => lhs; whnf)
                  rw [hx_x42]
                  conv => lhs; whnf
                  rw [hx_x42]
                  conv => lhs; whnf
                  first | (rw [map_set_of (r := rI) (l := v23) (x := y41.1) ?hh]; case hh => exact rfl) | skip
                  obtain rfl := Option.some.inj h; show _ = _; kernel_rfl

            · replace h := ifT h (beqT hb35); conv => lhs; whnf
              obtain ⟨y36, h_y36, h⟩ := callK_inv h
              rw [cl_eq hcl (L_spec_l00Src_among' y32.2 ([(-1), 0, 50] : List Int) h_y36)]
              rotate_left
              · show _ = _; kernel_rfl
              · show _ = _; kernel_rfl
              conv => lhs; whnf
              obtain ⟨hg76, h⟩ := grd_inv h
              rw [app_eq hg76 ?h1 ?h2]
              case h1 => first | exact rfl | (simp only [List.length_map, List.length_cons, List.length_nil]; done) | (rw [List.length_map]; rfl)
              case h2 => exact rfl
              conv => lhs; whnf
              first | (rw [map_app_of (r := rI) (l := v22) (m := ([y36.1] : List Int)) ?hh]; case hh => exact rfl) | skip
              obtain rfl := Option.some.inj h; show _ = _; kernel_rfl

          · replace h := ifT h (beqT hb33); conv => lhs; whnf
            obtain ⟨y34, h_y34, h⟩ := callK_inv h
            rw [cl_eq hcl (L_spec_l00Src_among' y32.2 ([0, (IntKind.i64.wrap (v19 - 1)), 4, 5] : List Int) h_y34)]
            rotate_left
            · show _ = _; kernel_rfl
            · show _ = _; kernel_rfl
            conv => lhs; whnf
            obtain rfl := Option.some.inj h; show _ = _; kernel_rfl

      · replace h := ifT h (decT hb25); conv => lhs; whnf
        obtain ⟨y26, h_y26, h⟩ := callK_inv h
        rw [cl_eq hcl (L_spec_l07Count y1.1 h_y26)]
        rotate_left
        · show _ = _; kernel_rfl
        · show _ = _; kernel_rfl
        conv => lhs; whnf
        obtain ⟨y27, h_y27, h⟩ := callK_inv h
        rw [cl_eq hcl (L_spec_l00Src_pick y26 v17 h_y27)]
        rotate_left
        · show _ = _; kernel_rfl
        · show _ = _; kernel_rfl
        conv => lhs; whnf
        obtain ⟨y28, h_y28, h⟩ := callK_inv h
        rw [cl_eq hcl (L_spec_RetireBlock v18 v19 v20 v21 y27.1 v22 v23 h_y28)]
        rotate_left
        · show _ = _; kernel_rfl
        · show _ = _; kernel_rfl
        conv => lhs; whnf
        cases hb29 : (y28.2.2.2.2.1 == 0)
        · replace h := ifF h (beqF hb29); conv => lhs; whnf
          exact hnx24 _ _ _ _ (fun kk => by kernel_rfl) h
        · replace h := ifT h (beqT hb29); conv => lhs; whnf
          exact hnx24 _ _ _ _ (fun kk => by kernel_rfl) h
  · replace h := ifT h (decT hb7); conv => lhs; whnf
    obtain ⟨y8, h_y8, h⟩ := callK_inv h
    rw [cl_eq hcl (L_spec_l00Src_one 9 v3 h_y8)]
    rotate_left
    · show _ = _; kernel_rfl
    · show _ = _; kernel_rfl
    conv => lhs; whnf
    cases hb9 : y8.1
    · replace h := ifF h (booF hb9); conv => lhs; whnf
      exact hnx5 _ _ _ _ (fun kk => by kernel_rfl) h
    · replace h := ifT h hb9; conv => lhs; whnf
      obtain ⟨hg77, h⟩ := grd_inv h
      rw [app_eq hg77 ?h1 ?h2]
      case h1 => first | exact rfl | (simp only [List.length_map, List.length_cons, List.length_nil]; done) | (rw [List.length_map]; rfl)
      case h2 => exact rfl
      conv => lhs; whnf
      first | (rw [map_app_of (r := rI) (l := v4) (m := ([v2] : List Int)) ?hh]; case hh => exact rfl) | skip
      exact hnx5 _ _ _ _ (fun kk => by kernel_rfl) h

noncomputable def p_spec_DrawMarkBadBlocks (a_0 : List Int) : Option (Flash × BadTable) :=
  callK (p_spec_l00From a_0) fun y1 =>
  callK (p_spec_l15Flash y1) fun y2 =>
  callK (p_spec_l00Src_one 4 y2.2.2.2.2.2.2.2.1) fun y3 =>
  if y3.1 = true then
    callK (p_spec_l07Draw y3.2) fun y5 =>
    some ((⟨⟨y2.1, y2.2.1, y2.2.2.1⟩, y2.2.2.2.2.2.2.2.2, y2.2.2.2.1, y2.2.2.2.2.1, y2.2.2.2.2.2.1, y2.2.2.2.2.2.2.1⟩ : Flash), (⟨⟨y5.1, y5.2.1, y5.2.2.1⟩, y5.2.2.2.1, y5.2.2.2.2.2.1, y5.2.2.2.2.2.2⟩ : BadTable))
  else
    callK (p_spec_l00Src_pick 2 y3.2) fun y6 =>
    callK (p_spec_NewBadTable (⟨y2.1, y2.2.1, y2.2.2.1⟩ : Geometry) (IntKind.i64.wrap (1 + y6.1)) ([] : List Int)) fun y7 =>
    callK (p_spec_l00Src_pick 3 y6.2) fun y8 =>
    iterK (fun ((v9, v10, v11, v12, v13, v14, v15, v16) : (Int × Sl00Src × Int × Int × Int × Int × (List Int) × (List Int))) (nx17 : (Int × Sl00Src × Int × Int × Int × Int × (List Int) × (List Int)) → Option _) =>
      if v9 > 0 then
        callK (p_spec_l00Src_pick 8 v10) fun y19 =>
        callK (p_spec_RetireBlock v11 v12 v13 v14 y19.1 v15 v16) fun y20 =>
        if y20.2.2.2.2.1 = 0 then
          nx17 ((IntKind.i64.wrap (v9 - 1)), y19.2, y20.1, y20.2.1, y20.2.2.1, y20.2.2.2.1, y20.2.2.2.2.2.1, y20.2.2.2.2.2.2)
        else
          nx17 ((IntKind.i64.wrap (v9 - 1)), y19.2, v11, v12, v13, v14, v15, v16)
      else
        some ((⟨⟨y2.1, y2.2.1, y2.2.2.1⟩, y2.2.2.2.2.2.2.2.2, y2.2.2.2.1, y2.2.2.2.2.1, y2.2.2.2.2.2.1, y2.2.2.2.2.2.2.1⟩ : Flash), (⟨⟨v11, v12, v13⟩, v14, v15, v16⟩ : BadTable))) NN (y8.1, y8.2, y7.1, y7.2.1, y7.2.2.1, y7.2.2.2.1, y7.2.2.2.2.2.1, y7.2.2.2.2.2.2)

set_option maxHeartbeats 4000000 in
theorem L_spec_DrawMarkBadBlocks (a_0 : List Int) {r : (Flash × BadTable)} (h : p_spec_DrawMarkBadBlocks a_0 = some r) : callL E 50 [.d (.arr (a_0.map rU))] ([] : Fo) = some (.tup [.agg [IN r.1.Geo.Dies, IN r.1.Geo.Blocks, IN r.1.Geo.Pages, .d (.arr (r.1.Blocks.map rBlock)), IN r.1.Fuse, IN r.1.Keep, BO r.1.Off, IN r.1.Ops], .agg [IN r.2.Geo.Dies, IN r.2.Geo.Blocks, IN r.2.Geo.Pages, IN r.2.Spare, .d (.arr (r.2.Bad.map rI)), .d (.arr (r.2.Remap.map rI))]], ([] : Fo)) := by
  unfold p_spec_DrawMarkBadBlocks at h
  refine callW (fu := Try.f50) rfl rfl rfl NN ?_
  intro lp cl hlp hcl
  conv => lhs; whnf
  obtain ⟨y1, h_y1, h⟩ := callK_inv h
  rw [cl_eq hcl (L_spec_l00From a_0 h_y1)]
  rotate_left
  · show _ = _; kernel_rfl
  · show _ = _; kernel_rfl
  conv => lhs; whnf
  obtain ⟨y2, h_y2, h⟩ := callK_inv h
  rw [cl_eq hcl (L_spec_l15Flash y1 h_y2)]
  rotate_left
  · show _ = _; kernel_rfl
  · show _ = _; kernel_rfl
  conv => lhs; whnf
  obtain ⟨y3, h_y3, h⟩ := callK_inv h
  rw [cl_eq hcl (L_spec_l00Src_one 4 y2.2.2.2.2.2.2.2.1 h_y3)]
  rotate_left
  · show _ = _; kernel_rfl
  · show _ = _; kernel_rfl
  conv => lhs; whnf
  cases hb4 : y3.1
  · replace h := ifF h (booF hb4); conv => lhs; whnf
    obtain ⟨y6, h_y6, h⟩ := callK_inv h
    rw [cl_eq hcl (L_spec_l00Src_pick 2 y3.2 h_y6)]
    rotate_left
    · show _ = _; kernel_rfl
    · show _ = _; kernel_rfl
    conv => lhs; whnf
    obtain ⟨y7, h_y7, h⟩ := callK_inv h
    rw [cl_eq hcl (L_spec_NewBadTable (⟨y2.1, y2.2.1, y2.2.2.1⟩ : Geometry) (IntKind.i64.wrap (1 + y6.1)) ([] : List Int) h_y7)]
    rotate_left
    · show _ = _; kernel_rfl
    · show _ = _; kernel_rfl
    conv => lhs; whnf
    obtain ⟨y8, h_y8, h⟩ := callK_inv h
    rw [cl_eq hcl (L_spec_l00Src_pick 3 y6.2 h_y8)]
    rotate_left
    · show _ = _; kernel_rfl
    · show _ = _; kernel_rfl
    conv => lhs; whnf
    refine loop_iter hlp (fun ((v9, v10, v11, v12, v13, v14, v15, v16) : (Int × Sl00Src × Int × Int × Int × Int × (List Int) × (List Int))) => ([.dead, .dead, .bp 0 0, .bp 1 0, .bp 2 0, .bp 3 0, .bp 4 0, .dead, IN v9] ++ List.replicate 39 .dead : List V)) (fun ((v9, v10, v11, v12, v13, v14, v15, v16) : (Int × Sl00Src × Int × Int × Int × Int × (List Int) × (List Int))) => ([some (.box [IN 0, IN 0, IN 0, .d (.arr (([] : List Block).map rBlock)), IN 0, IN 0, BO false, IN 0]), some (.box [IN 0, IN 0, IN 0, IN 0, .d (.arr (([] : List Int).map rI)), .d (.arr (([] : List Int).map rI))]), some (.box [.d (.arr (v10.Code.map rU)), IN v10.At, .d (.lit (.int .u64 v10.Seed))]), some (.box [IN y2.1, IN y2.2.1, IN y2.2.2.1, .nsl 5, IN y2.2.2.2.1, IN y2.2.2.2.2.1, BO y2.2.2.2.2.2.1, IN y2.2.2.2.2.2.2.1]), some (.box [IN v11, IN v12, IN v13, IN v14, .sl 6, .sl 7]), some (.nst ⟨91, 4, 3, 9, 1⟩ y2.2.2.2.2.2.2.2.2.length (y2.2.2.2.2.2.2.2.2.map rBlock)), some (.arr 2 1 (v15.map rI)), some (.arr 2 1 (v16.map rI))] : Fo)) (fun (r : (Flash × BadTable)) => ((.tup [.agg [IN r.1.Geo.Dies, IN r.1.Geo.Blocks, IN r.1.Geo.Pages, .d (.arr (r.1.Blocks.map rBlock)), IN r.1.Fuse, IN r.1.Keep, BO r.1.Off, IN r.1.Ops], .agg [IN r.2.Geo.Dies, IN r.2.Geo.Blocks, IN r.2.Geo.Pages, IN r.2.Spare, .d (.arr (r.2.Bad.map rI)), .d (.arr (r.2.Remap.map rI))]] : V), ([] : Fo))) ?_ (y8.1, y8.2, y7.1, y7.2.1, y7.2.2.1, y7.2.2.2.1, y7.2.2.2.2.2.1, y7.2.2.2.2.2.2) _ (fun kk => by kernel_rfl) h
    clear h
    rintro next_nx17 nx17 hnx17 ⟨v9, v10, v11, v12, v13, v14, v15, v16⟩ r h
    try dsimp only at h
    conv => lhs; whnf
    cases hb18 : (decide (v9 > 0))
    · replace h := ifF h (decF hb18); conv => lhs; whnf
      obtain rfl := Option.some.inj h; show _ = _; kernel_rfl

    · replace h := ifT h (decT hb18); conv => lhs; whnf
      obtain ⟨y19, h_y19, h⟩ := callK_inv h
      rw [cl_eq hcl (L_spec_l00Src_pick 8 v10 h_y19)]
      rotate_left
      · show _ = _; kernel_rfl
      · show _ = _; kernel_rfl
      conv => lhs; whnf
      obtain ⟨y20, h_y20, h⟩ := callK_inv h
      rw [cl_eq hcl (L_spec_RetireBlock v11 v12 v13 v14 y19.1 v15 v16 h_y20)]
      rotate_left
      · show _ = _; kernel_rfl
      · show _ = _; kernel_rfl
      conv => lhs; whnf
      cases hb21 : (y20.2.2.2.2.1 == 0)
      · replace h := ifF h (beqF hb21); conv => lhs; whnf
        exact hnx17 _ _ _ _ (fun kk => by kernel_rfl) h
      · replace h := ifT h (beqT hb21); conv => lhs; whnf
        exact hnx17 _ _ _ _ (fun kk => by kernel_rfl) h
  · replace h := ifT h hb4; conv => lhs; whnf
    obtain ⟨y5, h_y5, h⟩ := callK_inv h
    rw [cl_eq hcl (L_spec_l07Draw y3.2 h_y5)]
    rotate_left
    · show _ = _; kernel_rfl
    · show _ = _; kernel_rfl
    conv => lhs; whnf
    obtain rfl := Option.some.inj h; show _ = _; kernel_rfl


noncomputable def p_impl_ValidGeometry (a_0 : Geometry) : Option Bool :=
  if (inR a_0.Dies 2 3) = true then
    if (inR a_0.Blocks 4 12) = true then
      if a_0.Pages = 8 then
        some true
      else
        some (a_0.Pages == 16)
    else
      some false
  else
    some false

set_option maxHeartbeats 4000000 in
theorem L_impl_ValidGeometry (a_0 : Geometry) {r : Bool} (h : p_impl_ValidGeometry a_0 = some r) : callL E 197 [.agg [IN a_0.Dies, IN a_0.Blocks, IN a_0.Pages]] ([] : Fo) = some (BO r, ([] : Fo)) := by
  unfold p_impl_ValidGeometry at h
  refine callW (fu := Try.f197) rfl rfl rfl NN ?_
  intro lp cl hlp hcl
  conv => lhs; whnf
  rw [cl_eq hcl (L_impl_within a_0.Dies 2 3 (pl_within a_0.Dies 2 3))]
  rotate_left
  · show _ = _; kernel_rfl
  · show _ = _; kernel_rfl
  conv => lhs; whnf
  cases hb1 : (inR a_0.Dies 2 3)
  · replace h := ifF h (booF hb1); conv => lhs; whnf
    try (rw [hb1]; conv => lhs; whnf)
    try (rw [hb1]; conv => lhs; whnf)
    try (rw [hb1]; conv => lhs; whnf)
    obtain rfl := Option.some.inj h; show _ = _; kernel_rfl

  · replace h := ifT h hb1; conv => lhs; whnf
    try (rw [hb1]; conv => lhs; whnf)
    try (rw [hb1]; conv => lhs; whnf)
    rw [cl_eq hcl (L_impl_within a_0.Blocks 4 12 (pl_within a_0.Blocks 4 12))]
    rotate_left
    · show _ = _; kernel_rfl
    · show _ = _; kernel_rfl
    conv => lhs; whnf
    try (rw [hb1]; conv => lhs; whnf)
    cases hb2 : (inR a_0.Blocks 4 12)
    · replace h := ifF h (booF hb2); conv => lhs; whnf
      try (rw [hb2]; conv => lhs; whnf)
      try (rw [hb2]; conv => lhs; whnf)
      try (rw [hb2]; conv => lhs; whnf)
      try (rw [hb2]; conv => lhs; whnf)
      try (rw [hb2]; conv => lhs; whnf)
      obtain rfl := Option.some.inj h; show _ = _; kernel_rfl

    · replace h := ifT h hb2; conv => lhs; whnf
      try (rw [hb2]; conv => lhs; whnf)
      try (rw [hb2]; conv => lhs; whnf)
      try (rw [hb2]; conv => lhs; whnf)
      cases hb3 : (a_0.Pages == 8)
      · replace h := ifF h (beqF hb3); conv => lhs; whnf
        try (rw [hb3]; conv => lhs; whnf)
        try (rw [hb3]; conv => lhs; whnf)
        try (rw [hb2]; conv => lhs; whnf)
        try (rw [hb3]; conv => lhs; whnf)
        try (rw [hb2]; conv => lhs; whnf)
        obtain rfl := Option.some.inj h; show _ = _; kernel_rfl

      · replace h := ifT h (beqT hb3); conv => lhs; whnf
        try (rw [hb3]; conv => lhs; whnf)
        try (rw [hb3]; conv => lhs; whnf)
        try (rw [hb2]; conv => lhs; whnf)
        try (rw [hb3]; conv => lhs; whnf)
        try (rw [hb2]; conv => lhs; whnf)
        obtain rfl := Option.some.inj h; show _ = _; kernel_rfl


noncomputable def p_impl_Geometry_all (a_0 : Geometry) : Option Int :=
  some (IntKind.i64.wrap (a_0.Dies * a_0.Blocks))

set_option maxHeartbeats 4000000 in
theorem L_impl_Geometry_all (a_0 : Geometry) {r : Int} (h : p_impl_Geometry_all a_0 = some r) : callL E 198 [.agg [IN a_0.Dies, IN a_0.Blocks, IN a_0.Pages]] ([] : Fo) = some (IN r, ([] : Fo)) := by
  unfold p_impl_Geometry_all at h
  refine callW (fu := Try.f198) rfl rfl rfl NN ?_
  intro lp cl hlp hcl
  conv => lhs; whnf
  obtain rfl := Option.some.inj h; show _ = _; kernel_rfl


noncomputable def p_impl_Geometry_blockOk (a_0 : Geometry) (a_1 : Block) : Option Bool :=
  if (inR a_1.Erases 0 1000) = true then
    if (inR a_1.Next 0 a_0.Pages) = true then
      if ¬ (a_1.Pages.length : Int) = a_0.Pages then
        some false
      else
        grd (a_1.Pages.length < 4611686018427387904) <|
        forK a_1.Pages (fun (i10 : Nat) x12 (_ : Unit) (nx11 : Unit → Option _) =>
          if (x12.toList == (⟨#[]⟩ : ByteArray).toList) = true then
            nx11 ()
          else
            if ¬ (ByteArray.size x12 : Int) = 91 then
              some false
            else
              if (i10 : Int) ≥ a_1.Next then
                some false
              else
                nx11 ()) () (fun (_ : Unit) =>
          some true)
    else
      some false
  else
    some false

set_option maxHeartbeats 4000000 in
theorem L_impl_Geometry_blockOk (a_0 : Geometry) (a_1 : Block) {r : Bool} (h : p_impl_Geometry_blockOk a_0 a_1 = some r) : callL E 201 [.agg [IN a_0.Dies, IN a_0.Blocks, IN a_0.Pages], .agg [IN a_1.Erases, IN a_1.Next, BO a_1.Bad, .d (.arr (a_1.Pages.map rS))]] ([] : Fo) = some (BO r, ([] : Fo)) := by
  unfold p_impl_Geometry_blockOk at h
  refine callW (fu := Try.f201) rfl rfl rfl NN ?_
  intro lp cl hlp hcl
  conv => lhs; whnf
  rw [cl_eq hcl (L_impl_within a_1.Erases 0 1000 (pl_within a_1.Erases 0 1000))]
  rotate_left
  · show _ = _; kernel_rfl
  · show _ = _; kernel_rfl
  conv => lhs; whnf
  cases hb1 : (inR a_1.Erases 0 1000)
  · replace h := ifF h (booF hb1); conv => lhs; whnf
    try (rw [hb1]; conv => lhs; whnf)
    try (rw [hb1]; conv => lhs; whnf)
    try (rw [hb1]; conv => lhs; whnf)
    try (rw [hb1]; conv => lhs; whnf)
    try (rw [hb1]; conv => lhs; whnf)
    try (rw [hb1]; conv => lhs; whnf)
    obtain rfl := Option.some.inj h; show _ = _; kernel_rfl

  · replace h := ifT h hb1; conv => lhs; whnf
    try (rw [hb1]; conv => lhs; whnf)
    try (rw [hb1]; conv => lhs; whnf)
    try (rw [hb1]; conv => lhs; whnf)
    try (rw [hb1]; conv => lhs; whnf)
    rw [cl_eq hcl (L_impl_within a_1.Next 0 a_0.Pages (pl_within a_1.Next 0 a_0.Pages))]
    rotate_left
    · show _ = _; kernel_rfl
    · show _ = _; kernel_rfl
    conv => lhs; whnf
    try (rw [hb1]; conv => lhs; whnf)
    try (rw [hb1]; conv => lhs; whnf)
    cases hb2 : (inR a_1.Next 0 a_0.Pages)
    · replace h := ifF h (booF hb2); conv => lhs; whnf
      try (rw [hb2]; conv => lhs; whnf)
      try (rw [hb2]; conv => lhs; whnf)
      try (rw [hb2]; conv => lhs; whnf)
      try (rw [hb2]; conv => lhs; whnf)
      try (rw [hb2]; conv => lhs; whnf)
      try (rw [hb2]; conv => lhs; whnf)
      obtain rfl := Option.some.inj h; show _ = _; kernel_rfl

    · replace h := ifT h hb2; conv => lhs; whnf
      try (rw [hb2]; conv => lhs; whnf)
      try (rw [hb2]; conv => lhs; whnf)
      try rw [len_of (l := a_1.Pages) (r := rS)]
      try (rw [hb2]; conv => lhs; whnf)
      try (rw [hb2]; conv => lhs; whnf)
      try (rw [hb2]; conv => lhs; whnf)
      try (rw [hb2]; conv => lhs; whnf)
      cases hb3 : ((a_1.Pages.length : Int) != a_0.Pages)
      · replace h := ifF h ((fun h => not_not_intro (bneF h)) hb3); conv => lhs; whnf
        try rw [len_of (l := a_1.Pages) (r := rS)]
        obtain ⟨hl_i10, h⟩ := grd_inv h
        refine loop_for hlp (l := a_1.Pages) hl_i10 (fun (i10 : Nat) (_ : Unit) => ([.dead, .dead, .dead, .bp 0 0, .dead, .dead, .dead, .dead, .dead, .dead, .dead, .dead, .dead, .dead, .dead, .dead, .dead, .dead, .dead, .dead, .dead, .dead, .dead, .dead, .dead, .dead, .dead, .dead, .d (.arr (a_1.Pages.map rS)), IN (a_1.Pages.length : Int), IN (i10 : Int)] ++ List.replicate 18 .dead : List V)) (fun (i10 : Nat) (_ : Unit) => ([some (.box [IN a_1.Erases, IN a_1.Next, BO a_1.Bad, .d (.arr (a_1.Pages.map rS))])] : Fo)) (fun (r : Bool) => ((BO r : V), ([] : Fo))) ?_ ?_ () _ (fun kk => by kernel_rfl) h
        · clear h
          rintro next_nx11 nx11 i10 hi_i10 hnx11 ⟨⟩ r h
          try dsimp only at h
          have hn_i10 : i10 < 4611686018427387904 := by omega
          have hx_x12 := get_map rS a_1.Pages i10 hi_i10
          generalize a_1.Pages[i10] = x12 at h hx_x12
          have hd_i10 : (decide ((i10 : Int) < (a_1.Pages.length : Int))) = true := decide_eq_true (by omega)
          conv => lhs; whnf
          try (first | rw [hd_i10] | (split; (first | (rename_i hx; exact absurd (hd_i10.symm.trans hx) (by decide)) | (rotate_left; rename_i hx; exact absurd (hd_i10.symm.trans hx) (by decide)))))
          conv => lhs; whnf
          try (rw [decide_eq_true hq_x12]; conv => lhs; whnf)
          rw [hx_x12]
          conv => lhs; whnf
          rw [hx_x12]
          conv => lhs; whnf
          cases hb13 : (x12.toList == (⟨#[]⟩ : ByteArray).toList)
          · replace h := ifF h (booF hb13); conv => lhs; whnf
            try (rw [hb13]; conv => lhs; whnf)
            try (rw [hb13]; conv => lhs; whnf)
            try (rw [hb13]; conv => lhs; whnf)
            cases hb14 : ((ByteArray.size x12 : Int) != 91)
            · replace h := ifF h ((fun h => not_not_intro (bneF h)) hb14); conv => lhs; whnf
              try (rw [hb14]; conv => lhs; whnf)
              try (rw [hb14]; conv => lhs; whnf)
              try (rw [hb14]; conv => lhs; whnf)
              try (rw [hb13]; conv => lhs; whnf)
              try (rw [hb14]; conv => lhs; whnf)
              try (rw [hb13]; conv => lhs; whnf)
              cases hb15 : (decide ((i10 : Int) ≥ a_1.Next))
              · replace h := ifF h (decF hb15); conv => lhs; whnf
                rw [wrap_nat i10 (by have := hn_i10; omega)]
                exact hnx11 _ _ _ _ (fun kk => by kernel_rfl) h
              · replace h := ifT h (decT hb15); conv => lhs; whnf
                obtain rfl := Option.some.inj h; show _ = _; kernel_rfl

            · replace h := ifT h (bneT hb14); conv => lhs; whnf
              try (rw [hb14]; conv => lhs; whnf)
              try (rw [hb14]; conv => lhs; whnf)
              try (rw [hb14]; conv => lhs; whnf)
              try (rw [hb13]; conv => lhs; whnf)
              try (rw [hb14]; conv => lhs; whnf)
              try (rw [hb13]; conv => lhs; whnf)
              obtain rfl := Option.some.inj h; show _ = _; kernel_rfl

          · replace h := ifT h hb13; conv => lhs; whnf
            try (rw [hb13]; conv => lhs; whnf)
            try (rw [hb13]; conv => lhs; whnf)
            try (rw [hb13]; conv => lhs; whnf)
            try (rw [hb13]; conv => lhs; whnf)
            try (rw [hb13]; conv => lhs; whnf)
            rw [wrap_nat i10 (by have := hn_i10; omega)]
            exact hnx11 _ _ _ _ (fun kk => by kernel_rfl) h
        · clear h
          rintro next_nx11 ⟨⟩ r h
          try dsimp only at h
          have hd_i10 : (decide ((a_1.Pages.length : Int) < (a_1.Pages.length : Int))) = false := decide_eq_false (by omega)
          conv => lhs; whnf
          try (first | rw [hd_i10] | (split; (first | (rename_i hx; exact absurd (hd_i10.symm.trans hx) (by decide)) | (rotate_left; rename_i hx; exact absurd (hd_i10.symm.trans hx) (by decide)))))
          conv => lhs; whnf
          obtain rfl := Option.some.inj h; show _ = _; kernel_rfl

      · replace h := ifT h (bneT hb3); conv => lhs; whnf
        obtain rfl := Option.some.inj h; show _ = _; kernel_rfl


noncomputable def p_impl_ValidFlash_c1 (a_0 : Block) (a_1 : Flash) : Option Bool :=
  callK (p_impl_Geometry_blockOk a_1.Geo a_0) fun y1 =>
  some (!y1)

set_option maxHeartbeats 4000000 in
theorem L_impl_ValidFlash_c1 (a_0 : Block) (a_1 : Flash) {r : Bool} (h : p_impl_ValidFlash_c1 a_0 a_1 = some r) : callL E 200 [.agg [IN a_0.Erases, IN a_0.Next, BO a_0.Bad, .d (.arr (a_0.Pages.map rS))], .bp 0 0] ([some (.box [IN a_1.Geo.Dies, IN a_1.Geo.Blocks, IN a_1.Geo.Pages, .d (.arr (a_1.Blocks.map rBlock)), IN a_1.Fuse, IN a_1.Keep, BO a_1.Off, IN a_1.Ops])] : Fo) = some (BO r, ([some (.box [IN a_1.Geo.Dies, IN a_1.Geo.Blocks, IN a_1.Geo.Pages, .d (.arr (a_1.Blocks.map rBlock)), IN a_1.Fuse, IN a_1.Keep, BO a_1.Off, IN a_1.Ops])] : Fo)) := by
  unfold p_impl_ValidFlash_c1 at h
  refine callW (fu := Try.f200) rfl rfl rfl NN ?_
  intro lp cl hlp hcl
  conv => lhs; whnf
  obtain ⟨y1, h_y1, h⟩ := callK_inv h
  rw [cl_eq hcl (L_impl_Geometry_blockOk a_1.Geo a_0 h_y1)]
  rotate_left
  · show _ = _; kernel_rfl
  · show _ = _; kernel_rfl
  conv => lhs; whnf
  obtain rfl := Option.some.inj h; show _ = _; kernel_rfl


noncomputable def p_slices_IndexFunc_impl_ValidFlash_c1 (a_0 : List Block) (a_1 : Flash) : Option Int :=
  grd (a_0.length < 4611686018427387904) <|
  forK a_0 (fun (i6 : Nat) x8 (_ : Unit) (nx7 : Unit → Option _) =>
    callK (p_impl_ValidFlash_c1 x8 a_1) fun y9 =>
    if y9 = true then
      some (i6 : Int)
    else
      nx7 ()) () (fun (_ : Unit) =>
    some (-1))

set_option maxHeartbeats 4000000 in
theorem L_slices_IndexFunc_impl_ValidFlash_c1 (a_0 : List Block) (a_1 : Flash) {r : Int} (h : p_slices_IndexFunc_impl_ValidFlash_c1 a_0 a_1 = some r) : callL E 276 [.d (.arr (a_0.map rBlock)), .clo 200 [.bp 0 0]] ([some (.box [IN a_1.Geo.Dies, IN a_1.Geo.Blocks, IN a_1.Geo.Pages, .d (.arr (a_1.Blocks.map rBlock)), IN a_1.Fuse, IN a_1.Keep, BO a_1.Off, IN a_1.Ops])] : Fo) = some (IN r, ([some (.box [IN a_1.Geo.Dies, IN a_1.Geo.Blocks, IN a_1.Geo.Pages, .d (.arr (a_1.Blocks.map rBlock)), IN a_1.Fuse, IN a_1.Keep, BO a_1.Off, IN a_1.Ops])] : Fo)) := by
  unfold p_slices_IndexFunc_impl_ValidFlash_c1 at h
  refine callW (fu := Try.f276) rfl rfl rfl NN ?_
  intro lp cl hlp hcl
  conv => lhs; whnf
  try rw [len_of (l := a_0) (r := rBlock)]
  obtain ⟨hl_i6, h⟩ := grd_inv h
  refine loop_for hlp (l := a_0) hl_i6 (fun (i6 : Nat) (_ : Unit) => ([.d (.arr (a_0.map rBlock)), .clo 200 [.bp 0 0], .dead, .dead, .dead, .dead, .dead, IN (a_0.length : Int), IN (i6 : Int)] ++ List.replicate 10 .dead : List V)) (fun (i6 : Nat) (_ : Unit) => ([some (.box [IN a_1.Geo.Dies, IN a_1.Geo.Blocks, IN a_1.Geo.Pages, .d (.arr (a_1.Blocks.map rBlock)), IN a_1.Fuse, IN a_1.Keep, BO a_1.Off, IN a_1.Ops])] : Fo)) (fun (r : Int) => ((IN r : V), ([some (.box [IN a_1.Geo.Dies, IN a_1.Geo.Blocks, IN a_1.Geo.Pages, .d (.arr (a_1.Blocks.map rBlock)), IN a_1.Fuse, IN a_1.Keep, BO a_1.Off, IN a_1.Ops])] : Fo))) ?_ ?_ () _ (fun kk => by kernel_rfl) h
  · clear h
    rintro next_nx7 nx7 i6 hi_i6 hnx7 ⟨⟩ r h
    try dsimp only at h
    have hn_i6 : i6 < 4611686018427387904 := by omega
    have hx_x8 := get_map rBlock a_0 i6 hi_i6
    generalize a_0[i6] = x8 at h hx_x8
    have hd_i6 : (decide ((i6 : Int) < (a_0.length : Int))) = true := decide_eq_true (by omega)
    conv => lhs; whnf
    try (first | rw [hd_i6] | (split; (first | (rename_i hx; exact absurd (hd_i6.symm.trans hx) (by decide)) | (rotate_left; rename_i hx; exact absurd (hd_i6.symm.trans hx) (by decide)))))
    conv => lhs; whnf
    try (rw [decide_eq_true hq_x8]; conv => lhs; whnf)
    rw [hx_x8]
    conv => lhs; whnf
    rw [hx_x8]
    conv => lhs; whnf
    obtain ⟨y9, h_y9, h⟩ := callK_inv h
    rw [cl_eq hcl (L_impl_ValidFlash_c1 x8 a_1 h_y9)]
    rotate_left
    · show _ = _; kernel_rfl
    · show _ = _; kernel_rfl
    conv => lhs; whnf
    cases hb10 : y9
    · replace h := ifF h (booF hb10); conv => lhs; whnf
      rw [wrap_nat i6 (by have := hn_i6; omega)]
      exact hnx7 _ _ _ _ (fun kk => by kernel_rfl) h
    · replace h := ifT h hb10; conv => lhs; whnf
      obtain rfl := Option.some.inj h; show _ = _; kernel_rfl

  · clear h
    rintro next_nx7 ⟨⟩ r h
    try dsimp only at h
    have hd_i6 : (decide ((a_0.length : Int) < (a_0.length : Int))) = false := decide_eq_false (by omega)
    conv => lhs; whnf
    try (first | rw [hd_i6] | (split; (first | (rename_i hx; exact absurd (hd_i6.symm.trans hx) (by decide)) | (rotate_left; rename_i hx; exact absurd (hd_i6.symm.trans hx) (by decide)))))
    conv => lhs; whnf
    obtain rfl := Option.some.inj h; show _ = _; kernel_rfl


noncomputable def p_slices_ContainsFunc_impl_ValidFlash_c1 (a_0 : List Block) (a_1 : Flash) : Option Bool :=
  callK (p_slices_IndexFunc_impl_ValidFlash_c1 a_0 a_1) fun y1 =>
  some (decide (y1 ≥ 0))

set_option maxHeartbeats 4000000 in
theorem L_slices_ContainsFunc_impl_ValidFlash_c1 (a_0 : List Block) (a_1 : Flash) {r : Bool} (h : p_slices_ContainsFunc_impl_ValidFlash_c1 a_0 a_1 = some r) : callL E 199 [.d (.arr (a_0.map rBlock)), .clo 200 [.bp 0 0]] ([some (.box [IN a_1.Geo.Dies, IN a_1.Geo.Blocks, IN a_1.Geo.Pages, .d (.arr (a_1.Blocks.map rBlock)), IN a_1.Fuse, IN a_1.Keep, BO a_1.Off, IN a_1.Ops])] : Fo) = some (BO r, ([some (.box [IN a_1.Geo.Dies, IN a_1.Geo.Blocks, IN a_1.Geo.Pages, .d (.arr (a_1.Blocks.map rBlock)), IN a_1.Fuse, IN a_1.Keep, BO a_1.Off, IN a_1.Ops])] : Fo)) := by
  unfold p_slices_ContainsFunc_impl_ValidFlash_c1 at h
  refine callW (fu := Try.f199) rfl rfl rfl NN ?_
  intro lp cl hlp hcl
  conv => lhs; whnf
  obtain ⟨y1, h_y1, h⟩ := callK_inv h
  rw [cl_eq hcl (L_slices_IndexFunc_impl_ValidFlash_c1 a_0 a_1 h_y1)]
  rotate_left
  · show _ = _; kernel_rfl
  · show _ = _; kernel_rfl
  conv => lhs; whnf
  obtain rfl := Option.some.inj h; show _ = _; kernel_rfl


noncomputable def p_impl_ValidFlash (a_0 : Flash) : Option Bool :=
  callK (p_impl_ValidGeometry a_0.Geo) fun y1 =>
  if y1 = true then
    callK (p_impl_Geometry_all a_0.Geo) fun y3 =>
    if ¬ (a_0.Blocks.length : Int) = y3 then
      some false
    else
      if (inR a_0.Fuse (-1) 1000000) = true then
        if (inR a_0.Keep 0 91) = true then
          if a_0.Ops < 0 then
            some false
          else
            callK (p_slices_ContainsFunc_impl_ValidFlash_c1 a_0.Blocks a_0) fun y8 =>
            some (!y8)
        else
          some false
      else
        some false
  else
    some false

set_option maxHeartbeats 4000000 in
theorem L_impl_ValidFlash (a_0 : Flash) {r : Bool} (h : p_impl_ValidFlash a_0 = some r) : callL E 115 [.agg [IN a_0.Geo.Dies, IN a_0.Geo.Blocks, IN a_0.Geo.Pages, .d (.arr (a_0.Blocks.map rBlock)), IN a_0.Fuse, IN a_0.Keep, BO a_0.Off, IN a_0.Ops]] ([] : Fo) = some (BO r, ([] : Fo)) := by
  unfold p_impl_ValidFlash at h
  refine callW (fu := Try.f115) rfl rfl rfl NN ?_
  intro lp cl hlp hcl
  conv => lhs; whnf
  obtain ⟨y1, h_y1, h⟩ := callK_inv h
  rw [cl_eq hcl (L_impl_ValidGeometry a_0.Geo h_y1)]
  rotate_left
  · show _ = _; kernel_rfl
  · show _ = _; kernel_rfl
  conv => lhs; whnf
  cases hb2 : y1
  · replace h := ifF h (booF hb2); conv => lhs; whnf
    try (rw [hb2]; conv => lhs; whnf)
    try (rw [hb2]; conv => lhs; whnf)
    try (rw [hb2]; conv => lhs; whnf)
    try (rw [hb2]; conv => lhs; whnf)
    try (rw [hb2]; conv => lhs; whnf)
    try (rw [hb2]; conv => lhs; whnf)
    try (rw [hb2]; conv => lhs; whnf)
    obtain rfl := Option.some.inj h; show _ = _; kernel_rfl

  · replace h := ifT h hb2; conv => lhs; whnf
    try (rw [hb2]; conv => lhs; whnf)
    try (rw [hb2]; conv => lhs; whnf)
    try rw [len_of (l := a_0.Blocks) (r := rBlock)]
    try (rw [hb2]; conv => lhs; whnf)
    try (rw [hb2]; conv => lhs; whnf)
    try (rw [hb2]; conv => lhs; whnf)
    obtain ⟨y3, h_y3, h⟩ := callK_inv h
    rw [cl_eq hcl (L_impl_Geometry_all a_0.Geo h_y3)]
    rotate_left
    · show _ = _; kernel_rfl
    · show _ = _; kernel_rfl
    conv => lhs; whnf
    try (rw [hb2]; conv => lhs; whnf)
    try (rw [hb2]; conv => lhs; whnf)
    cases hb4 : ((a_0.Blocks.length : Int) != y3)
    · replace h := ifF h ((fun h => not_not_intro (bneF h)) hb4); conv => lhs; whnf
      try (rw [hb4]; conv => lhs; whnf)
      try (rw [hb4]; conv => lhs; whnf)
      rw [cl_eq hcl (L_impl_within a_0.Fuse (-1) 1000000 (pl_within a_0.Fuse (-1) 1000000))]
      rotate_left
      · show _ = _; kernel_rfl
      · show _ = _; kernel_rfl
      conv => lhs; whnf
      try (rw [hb4]; conv => lhs; whnf)
      try (rw [hb4]; conv => lhs; whnf)
      cases hb5 : (inR a_0.Fuse (-1) 1000000)
      · replace h := ifF h (booF hb5); conv => lhs; whnf
        try (rw [hb5]; conv => lhs; whnf)
        try (rw [hb5]; conv => lhs; whnf)
        try (rw [hb5]; conv => lhs; whnf)
        try (rw [hb5]; conv => lhs; whnf)
        obtain rfl := Option.some.inj h; show _ = _; kernel_rfl

      · replace h := ifT h hb5; conv => lhs; whnf
        try (rw [hb5]; conv => lhs; whnf)
        try (rw [hb5]; conv => lhs; whnf)
        rw [cl_eq hcl (L_impl_within a_0.Keep 0 91 (pl_within a_0.Keep 0 91))]
        rotate_left
        · show _ = _; kernel_rfl
        · show _ = _; kernel_rfl
        conv => lhs; whnf
        try (rw [hb5]; conv => lhs; whnf)
        try (rw [hb5]; conv => lhs; whnf)
        cases hb6 : (inR a_0.Keep 0 91)
        · replace h := ifF h (booF hb6); conv => lhs; whnf
          try (rw [hb6]; conv => lhs; whnf)
          try (rw [hb6]; conv => lhs; whnf)
          try (rw [hb6]; conv => lhs; whnf)
          obtain rfl := Option.some.inj h; show _ = _; kernel_rfl

        · replace h := ifT h hb6; conv => lhs; whnf
          try (rw [hb6]; conv => lhs; whnf)
          try (rw [hb6]; conv => lhs; whnf)
          try (rw [hb6]; conv => lhs; whnf)
          cases hb7 : (decide (a_0.Ops < 0))
          · replace h := ifF h (decF hb7); conv => lhs; whnf
            obtain ⟨y8, h_y8, h⟩ := callK_inv h
            rw [cl_eq hcl (L_slices_ContainsFunc_impl_ValidFlash_c1 a_0.Blocks a_0 h_y8)]
            rotate_left
            · show _ = _; kernel_rfl
            · show _ = _; kernel_rfl
            conv => lhs; whnf
            obtain rfl := Option.some.inj h; show _ = _; kernel_rfl

          · replace h := ifT h (decT hb7); conv => lhs; whnf
            obtain rfl := Option.some.inj h; show _ = _; kernel_rfl

    · replace h := ifT h (bneT hb4); conv => lhs; whnf
      try (rw [hb4]; conv => lhs; whnf)
      try (rw [hb4]; conv => lhs; whnf)
      try (rw [hb4]; conv => lhs; whnf)
      try (rw [hb4]; conv => lhs; whnf)
      obtain rfl := Option.some.inj h; show _ = _; kernel_rfl


noncomputable def p_impl_spareOk (a_0 : Geometry) (a_1 : Int) : Option Bool :=
  if (inR a_1 1 4) = true then
    some (decide (a_1 < (IntKind.i64.wrap (a_0.Blocks - 1))))
  else
    some false

set_option maxHeartbeats 4000000 in
theorem L_impl_spareOk (a_0 : Geometry) (a_1 : Int) {r : Bool} (h : p_impl_spareOk a_0 a_1 = some r) : callL E 227 [.agg [IN a_0.Dies, IN a_0.Blocks, IN a_0.Pages], IN a_1] ([] : Fo) = some (BO r, ([] : Fo)) := by
  unfold p_impl_spareOk at h
  refine callW (fu := Try.f227) rfl rfl rfl NN ?_
  intro lp cl hlp hcl
  conv => lhs; whnf
  rw [cl_eq hcl (L_impl_within a_1 1 4 (pl_within a_1 1 4))]
  rotate_left
  · show _ = _; kernel_rfl
  · show _ = _; kernel_rfl
  conv => lhs; whnf
  cases hb1 : (inR a_1 1 4)
  · replace h := ifF h (booF hb1); conv => lhs; whnf
    try (rw [hb1]; conv => lhs; whnf)
    try (rw [hb1]; conv => lhs; whnf)
    try (rw [hb1]; conv => lhs; whnf)
    try (rw [hb1]; conv => lhs; whnf)
    try (rw [hb1]; conv => lhs; whnf)
    obtain rfl := Option.some.inj h; show _ = _; kernel_rfl

  · replace h := ifT h hb1; conv => lhs; whnf
    try (rw [hb1]; conv => lhs; whnf)
    try (rw [hb1]; conv => lhs; whnf)
    try (rw [hb1]; conv => lhs; whnf)
    try (rw [hb1]; conv => lhs; whnf)
    try (rw [hb1]; conv => lhs; whnf)
    obtain rfl := Option.some.inj h; show _ = _; kernel_rfl


noncomputable def p_impl_increasing (a_0 : List Int) : Option Bool :=
  iterK (fun (v1 : Int) (nx2 : Int → Option _) =>
    if v1 < (a_0.length : Int) then
      getK a_0 v1 fun x4 =>
      getK a_0 (IntKind.i64.wrap (v1 - 1)) fun x5 =>
      if x4 ≤ x5 then
        some false
      else
        nx2 (IntKind.i64.wrap (v1 + 1))
    else
      some true) NN 1

set_option maxHeartbeats 4000000 in
theorem L_impl_increasing (a_0 : List Int) {r : Bool} (h : p_impl_increasing a_0 = some r) : callL E 252 [.d (.arr (a_0.map rI))] ([] : Fo) = some (BO r, ([] : Fo)) := by
  unfold p_impl_increasing at h
  refine callW (fu := Try.f252) rfl rfl rfl NN ?_
  intro lp cl hlp hcl
  conv => lhs; whnf
  refine loop_iter hlp (fun (v1 : Int) => ([.d (.arr (a_0.map rI)), .dead, .dead, IN v1] ++ List.replicate 16 .dead : List V)) (fun (v1 : Int) => ([] : Fo)) (fun (r : Bool) => ((BO r : V), ([] : Fo))) ?_ 1 _ (fun kk => by kernel_rfl) h
  clear h
  rintro next_nx2 nx2 hnx2 v1 r h
  try dsimp only at h
  conv => lhs; whnf
  try rw [len_of (l := a_0) (r := rI)]
  cases hb3 : (decide (v1 < (a_0.length : Int)))
  · replace h := ifF h (decF hb3); conv => lhs; whnf
    obtain rfl := Option.some.inj h; show _ = _; kernel_rfl

  · replace h := ifT h (decT hb3); conv => lhs; whnf
    obtain ⟨x4, hq_x4, hx_x4', h⟩ := getK_inv h
    have hx_x4 := get_of (r := rI) hx_x4'
    try (rw [decide_eq_true hq_x4]; conv => lhs; whnf)
    rw [hx_x4]
    conv => lhs; whnf
    rw [hx_x4]
    conv => lhs; whnf
    obtain ⟨x5, hq_x5, hx_x5', h⟩ := getK_inv h
    have hx_x5 := get_of (r := rI) hx_x5'
    try (rw [decide_eq_true hq_x5]; conv => lhs; whnf)
    rw [hx_x5]
    conv => lhs; whnf
    rw [hx_x5]
    conv => lhs; whnf
    cases hb6 : (decide (x4 ≤ x5))
    · replace h := ifF h (decF hb6); conv => lhs; whnf
      exact hnx2 _ _ _ _ (fun kk => by kernel_rfl) h
    · replace h := ifT h (decT hb6); conv => lhs; whnf
      obtain rfl := Option.some.inj h; show _ = _; kernel_rfl


noncomputable def p_impl_allWithin_c1 (a_0 : Int) (a_1 : Int) (a_2 : Int) : Option Bool :=
  some (!(inR a_0 a_1 a_2))

set_option maxHeartbeats 4000000 in
theorem L_impl_allWithin_c1 (a_0 : Int) (a_1 : Int) (a_2 : Int) {r : Bool} (h : p_impl_allWithin_c1 a_0 a_1 a_2 = some r) : callL E 300 [IN a_0, .bp 0 0, .bp 1 0] ([some (.box [IN a_1]), some (.box [IN a_2])] : Fo) = some (BO r, ([some (.box [IN a_1]), some (.box [IN a_2])] : Fo)) := by
  unfold p_impl_allWithin_c1 at h
  refine callW (fu := Try.f300) rfl rfl rfl NN ?_
  intro lp cl hlp hcl
  conv => lhs; whnf
  rw [cl_eq hcl (L_impl_within a_0 a_1 a_2 (pl_within a_0 a_1 a_2))]
  rotate_left
  · show _ = _; kernel_rfl
  · show _ = _; kernel_rfl
  conv => lhs; whnf
  obtain rfl := Option.some.inj h; show _ = _; kernel_rfl


noncomputable def p_slices_IndexFunc_impl_allWithin_c1 (a_0 : List Int) (a_1 : Int) (a_2 : Int) : Option Int :=
  grd (a_0.length < 4611686018427387904) <|
  forK a_0 (fun (i6 : Nat) x8 (_ : Unit) (nx7 : Unit → Option _) =>
    callK (p_impl_allWithin_c1 x8 a_1 a_2) fun y9 =>
    if y9 = true then
      some (i6 : Int)
    else
      nx7 ()) () (fun (_ : Unit) =>
    some (-1))

set_option maxHeartbeats 4000000 in
theorem L_slices_IndexFunc_impl_allWithin_c1 (a_0 : List Int) (a_1 : Int) (a_2 : Int) {r : Int} (h : p_slices_IndexFunc_impl_allWithin_c1 a_0 a_1 a_2 = some r) : callL E 318 [.d (.arr (a_0.map rI)), .clo 300 [.bp 0 0, .bp 1 0]] ([some (.box [IN a_1]), some (.box [IN a_2])] : Fo) = some (IN r, ([some (.box [IN a_1]), some (.box [IN a_2])] : Fo)) := by
  unfold p_slices_IndexFunc_impl_allWithin_c1 at h
  refine callW (fu := Try.f318) rfl rfl rfl NN ?_
  intro lp cl hlp hcl
  conv => lhs; whnf
  try rw [len_of (l := a_0) (r := rI)]
  obtain ⟨hl_i6, h⟩ := grd_inv h
  refine loop_for hlp (l := a_0) hl_i6 (fun (i6 : Nat) (_ : Unit) => ([.d (.arr (a_0.map rI)), .clo 300 [.bp 0 0, .bp 1 0], .dead, .dead, .dead, .dead, .dead, IN (a_0.length : Int), IN (i6 : Int)] ++ List.replicate 10 .dead : List V)) (fun (i6 : Nat) (_ : Unit) => ([some (.box [IN a_1]), some (.box [IN a_2])] : Fo)) (fun (r : Int) => ((IN r : V), ([some (.box [IN a_1]), some (.box [IN a_2])] : Fo))) ?_ ?_ () _ (fun kk => by kernel_rfl) h
  · clear h
    rintro next_nx7 nx7 i6 hi_i6 hnx7 ⟨⟩ r h
    try dsimp only at h
    have hn_i6 : i6 < 4611686018427387904 := by omega
    have hx_x8 := get_map rI a_0 i6 hi_i6
    generalize a_0[i6] = x8 at h hx_x8
    have hd_i6 : (decide ((i6 : Int) < (a_0.length : Int))) = true := decide_eq_true (by omega)
    conv => lhs; whnf
    try (first | rw [hd_i6] | (split; (first | (rename_i hx; exact absurd (hd_i6.symm.trans hx) (by decide)) | (rotate_left; rename_i hx; exact absurd (hd_i6.symm.trans hx) (by decide)))))
    conv => lhs; whnf
    try (rw [decide_eq_true hq_x8]; conv => lhs; whnf)
    rw [hx_x8]
    conv => lhs; whnf
    rw [hx_x8]
    conv => lhs; whnf
    obtain ⟨y9, h_y9, h⟩ := callK_inv h
    rw [cl_eq hcl (L_impl_allWithin_c1 x8 a_1 a_2 h_y9)]
    rotate_left
    · show _ = _; kernel_rfl
    · show _ = _; kernel_rfl
    conv => lhs; whnf
    cases hb10 : y9
    · replace h := ifF h (booF hb10); conv => lhs; whnf
      rw [wrap_nat i6 (by have := hn_i6; omega)]
      exact hnx7 _ _ _ _ (fun kk => by kernel_rfl) h
    · replace h := ifT h hb10; conv => lhs; whnf
      obtain rfl := Option.some.inj h; show _ = _; kernel_rfl

  · clear h
    rintro next_nx7 ⟨⟩ r h
    try dsimp only at h
    have hd_i6 : (decide ((a_0.length : Int) < (a_0.length : Int))) = false := decide_eq_false (by omega)
    conv => lhs; whnf
    try (first | rw [hd_i6] | (split; (first | (rename_i hx; exact absurd (hd_i6.symm.trans hx) (by decide)) | (rotate_left; rename_i hx; exact absurd (hd_i6.symm.trans hx) (by decide)))))
    conv => lhs; whnf
    obtain rfl := Option.some.inj h; show _ = _; kernel_rfl


noncomputable def p_slices_ContainsFunc_impl_allWithin_c1 (a_0 : List Int) (a_1 : Int) (a_2 : Int) : Option Bool :=
  callK (p_slices_IndexFunc_impl_allWithin_c1 a_0 a_1 a_2) fun y1 =>
  some (decide (y1 ≥ 0))

set_option maxHeartbeats 4000000 in
theorem L_slices_ContainsFunc_impl_allWithin_c1 (a_0 : List Int) (a_1 : Int) (a_2 : Int) {r : Bool} (h : p_slices_ContainsFunc_impl_allWithin_c1 a_0 a_1 a_2 = some r) : callL E 299 [.d (.arr (a_0.map rI)), .clo 300 [.bp 0 0, .bp 1 0]] ([some (.box [IN a_1]), some (.box [IN a_2])] : Fo) = some (BO r, ([some (.box [IN a_1]), some (.box [IN a_2])] : Fo)) := by
  unfold p_slices_ContainsFunc_impl_allWithin_c1 at h
  refine callW (fu := Try.f299) rfl rfl rfl NN ?_
  intro lp cl hlp hcl
  conv => lhs; whnf
  obtain ⟨y1, h_y1, h⟩ := callK_inv h
  rw [cl_eq hcl (L_slices_IndexFunc_impl_allWithin_c1 a_0 a_1 a_2 h_y1)]
  rotate_left
  · show _ = _; kernel_rfl
  · show _ = _; kernel_rfl
  conv => lhs; whnf
  obtain rfl := Option.some.inj h; show _ = _; kernel_rfl


noncomputable def p_impl_allWithin (a_0 : List Int) (a_1 : Int) (a_2 : Int) : Option Bool :=
  callK (p_slices_ContainsFunc_impl_allWithin_c1 a_0 a_1 a_2) fun y1 =>
  some (!y1)

set_option maxHeartbeats 4000000 in
theorem L_impl_allWithin (a_0 : List Int) (a_1 : Int) (a_2 : Int) {r : Bool} (h : p_impl_allWithin a_0 a_1 a_2 = some r) : callL E 253 [.d (.arr (a_0.map rI)), IN a_1, IN a_2] ([] : Fo) = some (BO r, ([] : Fo)) := by
  unfold p_impl_allWithin at h
  refine callW (fu := Try.f253) rfl rfl rfl NN ?_
  intro lp cl hlp hcl
  conv => lhs; whnf
  obtain ⟨y1, h_y1, h⟩ := callK_inv h
  rw [cl_eq hcl (L_slices_ContainsFunc_impl_allWithin_c1 a_0 a_1 a_2 h_y1)]
  rotate_left
  · show _ = _; kernel_rfl
  · show _ = _; kernel_rfl
  conv => lhs; whnf
  obtain rfl := Option.some.inj h; show _ = _; kernel_rfl


noncomputable def p_impl_blocksOk (a_0 : Geometry) (a_1 : List Int) : Option Bool :=
  callK (p_impl_increasing a_1) fun y1 =>
  if y1 = true then
    callK (p_impl_Geometry_all a_0) fun y3 =>
    callK (p_impl_allWithin a_1 0 (IntKind.i64.wrap (y3 - 1))) fun y4 =>
    some y4
  else
    some false

set_option maxHeartbeats 4000000 in
theorem L_impl_blocksOk (a_0 : Geometry) (a_1 : List Int) {r : Bool} (h : p_impl_blocksOk a_0 a_1 = some r) : callL E 156 [.agg [IN a_0.Dies, IN a_0.Blocks, IN a_0.Pages], .d (.arr (a_1.map rI))] ([] : Fo) = some (BO r, ([] : Fo)) := by
  unfold p_impl_blocksOk at h
  refine callW (fu := Try.f156) rfl rfl rfl NN ?_
  intro lp cl hlp hcl
  conv => lhs; whnf
  obtain ⟨y1, h_y1, h⟩ := callK_inv h
  rw [cl_eq hcl (L_impl_increasing a_1 h_y1)]
  rotate_left
  · show _ = _; kernel_rfl
  · show _ = _; kernel_rfl
  conv => lhs; whnf
  cases hb2 : y1
  · replace h := ifF h (booF hb2); conv => lhs; whnf
    try (rw [hb2]; conv => lhs; whnf)
    try (rw [hb2]; conv => lhs; whnf)
    try (rw [hb2]; conv => lhs; whnf)
    try (rw [hb2]; conv => lhs; whnf)
    try (rw [hb2]; conv => lhs; whnf)
    obtain rfl := Option.some.inj h; show _ = _; kernel_rfl

  · replace h := ifT h hb2; conv => lhs; whnf
    try (rw [hb2]; conv => lhs; whnf)
    try (rw [hb2]; conv => lhs; whnf)
    obtain ⟨y3, h_y3, h⟩ := callK_inv h
    rw [cl_eq hcl (L_impl_Geometry_all a_0 h_y3)]
    rotate_left
    · show _ = _; kernel_rfl
    · show _ = _; kernel_rfl
    conv => lhs; whnf
    try (rw [hb2]; conv => lhs; whnf)
    try (rw [hb2]; conv => lhs; whnf)
    obtain ⟨y4, h_y4, h⟩ := callK_inv h
    rw [cl_eq hcl (L_impl_allWithin a_1 0 (IntKind.i64.wrap (y3 - 1)) h_y4)]
    rotate_left
    · show _ = _; kernel_rfl
    · show _ = _; kernel_rfl
    conv => lhs; whnf
    try (rw [hb2]; conv => lhs; whnf)
    obtain rfl := Option.some.inj h; show _ = _; kernel_rfl


noncomputable def p_impl_BadTable_primary (a_0 : BadTable) : Option Int :=
  some (IntKind.i64.wrap (a_0.Geo.Blocks - a_0.Spare))

set_option maxHeartbeats 4000000 in
theorem L_impl_BadTable_primary (a_0 : BadTable) {r : Int} (h : p_impl_BadTable_primary a_0 = some r) : callL E 285 [.agg [IN a_0.Geo.Dies, IN a_0.Geo.Blocks, IN a_0.Geo.Pages, IN a_0.Spare, .d (.arr (a_0.Bad.map rI)), .d (.arr (a_0.Remap.map rI))]] ([] : Fo) = some (IN r, ([] : Fo)) := by
  unfold p_impl_BadTable_primary at h
  refine callW (fu := Try.f285) rfl rfl rfl NN ?_
  intro lp cl hlp hcl
  conv => lhs; whnf
  obtain rfl := Option.some.inj h; show _ = _; kernel_rfl


noncomputable def p_impl_BadTable_logical (a_0 : BadTable) : Option Int :=
  callK (p_impl_BadTable_primary a_0) fun y1 =>
  some (IntKind.i64.wrap (a_0.Geo.Dies * y1))

set_option maxHeartbeats 4000000 in
theorem L_impl_BadTable_logical (a_0 : BadTable) {r : Int} (h : p_impl_BadTable_logical a_0 = some r) : callL E 228 [.agg [IN a_0.Geo.Dies, IN a_0.Geo.Blocks, IN a_0.Geo.Pages, IN a_0.Spare, .d (.arr (a_0.Bad.map rI)), .d (.arr (a_0.Remap.map rI))]] ([] : Fo) = some (IN r, ([] : Fo)) := by
  unfold p_impl_BadTable_logical at h
  refine callW (fu := Try.f228) rfl rfl rfl NN ?_
  intro lp cl hlp hcl
  conv => lhs; whnf
  obtain ⟨y1, h_y1, h⟩ := callK_inv h
  rw [cl_eq hcl (L_impl_BadTable_primary a_0 h_y1)]
  rotate_left
  · show _ = _; kernel_rfl
  · show _ = _; kernel_rfl
  conv => lhs; whnf
  obtain rfl := Option.some.inj h; show _ = _; kernel_rfl


noncomputable def p_impl_BadTable_home (a_0 : BadTable) (a_1 : Int) : Option Int :=
  callK (p_impl_BadTable_primary a_0) fun y1 =>
  grd (y1 ≠ 0) <|
  callK (p_impl_BadTable_primary a_0) fun y2 =>
  grd (y2 ≠ 0) <|
  some (IntKind.i64.wrap ((IntKind.i64.wrap ((IntKind.i64.wrap (Int.tdiv a_1 y1)) * a_0.Geo.Blocks)) + (Int.tmod a_1 y2)))

set_option maxHeartbeats 4000000 in
theorem L_impl_BadTable_home (a_0 : BadTable) (a_1 : Int) {r : Int} (h : p_impl_BadTable_home a_0 a_1 = some r) : callL E 286 [.agg [IN a_0.Geo.Dies, IN a_0.Geo.Blocks, IN a_0.Geo.Pages, IN a_0.Spare, .d (.arr (a_0.Bad.map rI)), .d (.arr (a_0.Remap.map rI))], IN a_1] ([] : Fo) = some (IN r, ([] : Fo)) := by
  unfold p_impl_BadTable_home at h
  refine callW (fu := Try.f286) rfl rfl rfl NN ?_
  intro lp cl hlp hcl
  conv => lhs; whnf
  obtain ⟨y1, h_y1, h⟩ := callK_inv h
  rw [cl_eq hcl (L_impl_BadTable_primary a_0 h_y1)]
  rotate_left
  · show _ = _; kernel_rfl
  · show _ = _; kernel_rfl
  conv => lhs; whnf
  obtain ⟨hg3, h⟩ := grd_inv h
  rw [quo_run _ _ _ _ hg3]
  conv => lhs; whnf
  obtain ⟨y2, h_y2, h⟩ := callK_inv h
  rw [cl_eq hcl (L_impl_BadTable_primary a_0 h_y2)]
  rotate_left
  · show _ = _; kernel_rfl
  · show _ = _; kernel_rfl
  conv => lhs; whnf
  obtain ⟨hg4, h⟩ := grd_inv h
  rw [rem_run _ _ _ _ hg4]
  conv => lhs; whnf
  obtain rfl := Option.some.inj h; show _ = _; kernel_rfl


noncomputable def p_slices_Index (a_0 : List Int) (a_1 : Int) : Option Int :=
  grd (a_0.length < 4611686018427387904) <|
  forK a_0 (fun (i5 : Nat) x7 (_ : Unit) (nx6 : Unit → Option _) =>
    if a_1 = x7 then
      some (i5 : Int)
    else
      nx6 ()) () (fun (_ : Unit) =>
    some (-1))

set_option maxHeartbeats 4000000 in
theorem L_slices_Index (a_0 : List Int) (a_1 : Int) {r : Int} (h : p_slices_Index a_0 a_1 = some r) : callL E 289 [.d (.arr (a_0.map rI)), IN a_1] ([] : Fo) = some (IN r, ([] : Fo)) := by
  unfold p_slices_Index at h
  refine callW (fu := Try.f289) rfl rfl rfl NN ?_
  intro lp cl hlp hcl
  conv => lhs; whnf
  try rw [len_of (l := a_0) (r := rI)]
  obtain ⟨hl_i5, h⟩ := grd_inv h
  refine loop_for hlp (l := a_0) hl_i5 (fun (i5 : Nat) (_ : Unit) => ([.d (.arr (a_0.map rI)), IN a_1, .dead, .dead, .dead, .dead, .dead, IN (a_0.length : Int), IN (i5 : Int)] ++ List.replicate 10 .dead : List V)) (fun (i5 : Nat) (_ : Unit) => ([] : Fo)) (fun (r : Int) => ((IN r : V), ([] : Fo))) ?_ ?_ () _ (fun kk => by kernel_rfl) h
  · clear h
    rintro next_nx6 nx6 i5 hi_i5 hnx6 ⟨⟩ r h
    try dsimp only at h
    have hn_i5 : i5 < 4611686018427387904 := by omega
    have hx_x7 := get_map rI a_0 i5 hi_i5
    generalize a_0[i5] = x7 at h hx_x7
    have hd_i5 : (decide ((i5 : Int) < (a_0.length : Int))) = true := decide_eq_true (by omega)
    conv => lhs; whnf
    try (first | rw [hd_i5] | (split; (first | (rename_i hx; exact absurd (hd_i5.symm.trans hx) (by decide)) | (rotate_left; rename_i hx; exact absurd (hd_i5.symm.trans hx) (by decide)))))
    conv => lhs; whnf
    try (rw [decide_eq_true hq_x7]; conv => lhs; whnf)
    rw [hx_x7]
    conv => lhs; whnf
    rw [hx_x7]
    conv => lhs; whnf
    cases hb8 : (a_1 == x7)
    · replace h := ifF h (beqF hb8); conv => lhs; whnf
      rw [wrap_nat i5 (by have := hn_i5; omega)]
      exact hnx6 _ _ _ _ (fun kk => by kernel_rfl) h
    · replace h := ifT h (beqT hb8); conv => lhs; whnf
      obtain rfl := Option.some.inj h; show _ = _; kernel_rfl

  · clear h
    rintro next_nx6 ⟨⟩ r h
    try dsimp only at h
    have hd_i5 : (decide ((a_0.length : Int) < (a_0.length : Int))) = false := decide_eq_false (by omega)
    conv => lhs; whnf
    try (first | rw [hd_i5] | (split; (first | (rename_i hx; exact absurd (hd_i5.symm.trans hx) (by decide)) | (rotate_left; rename_i hx; exact absurd (hd_i5.symm.trans hx) (by decide)))))
    conv => lhs; whnf
    obtain rfl := Option.some.inj h; show _ = _; kernel_rfl


noncomputable def p_slices_Contains (a_0 : List Int) (a_1 : Int) : Option Bool :=
  callK (p_slices_Index a_0 a_1) fun y1 =>
  some (decide (y1 ≥ 0))

set_option maxHeartbeats 4000000 in
theorem L_slices_Contains (a_0 : List Int) (a_1 : Int) {r : Bool} (h : p_slices_Contains a_0 a_1 = some r) : callL E 230 [.d (.arr (a_0.map rI)), IN a_1] ([] : Fo) = some (BO r, ([] : Fo)) := by
  unfold p_slices_Contains at h
  refine callW (fu := Try.f230) rfl rfl rfl NN ?_
  intro lp cl hlp hcl
  conv => lhs; whnf
  obtain ⟨y1, h_y1, h⟩ := callK_inv h
  rw [cl_eq hcl (L_slices_Index a_0 a_1 h_y1)]
  rotate_left
  · show _ = _; kernel_rfl
  · show _ = _; kernel_rfl
  conv => lhs; whnf
  obtain rfl := Option.some.inj h; show _ = _; kernel_rfl


noncomputable def p_impl_BadTable_isBad (a_0 : BadTable) (a_1 : Int) : Option Bool :=
  callK (p_slices_Contains a_0.Bad a_1) fun y1 =>
  some y1

set_option maxHeartbeats 4000000 in
theorem L_impl_BadTable_isBad (a_0 : BadTable) (a_1 : Int) {r : Bool} (h : p_impl_BadTable_isBad a_0 a_1 = some r) : callL E 287 [.agg [IN a_0.Geo.Dies, IN a_0.Geo.Blocks, IN a_0.Geo.Pages, IN a_0.Spare, .d (.arr (a_0.Bad.map rI)), .d (.arr (a_0.Remap.map rI))], IN a_1] ([] : Fo) = some (BO r, ([] : Fo)) := by
  unfold p_impl_BadTable_isBad at h
  refine callW (fu := Try.f287) rfl rfl rfl NN ?_
  intro lp cl hlp hcl
  conv => lhs; whnf
  obtain ⟨y1, h_y1, h⟩ := callK_inv h
  rw [cl_eq hcl (L_slices_Contains a_0.Bad a_1 h_y1)]
  rotate_left
  · show _ = _; kernel_rfl
  · show _ = _; kernel_rfl
  conv => lhs; whnf
  obtain rfl := Option.some.inj h; show _ = _; kernel_rfl


noncomputable def p_impl_BadTable_spares (a_0 : BadTable) (a_1 : Int) : Option (List Int) :=
  callK (p_impl_BadTable_primary a_0) fun y1 =>
  iterK (fun ((v2, v3) : (Int × (List Int))) (nx4 : (Int × (List Int)) → Option _) =>
    if v2 < a_0.Geo.Blocks then
      grd (appOk (v3.length + 1) 8 = true) <|
      nx4 ((IntKind.i64.wrap (v2 + 1)), (v3 ++ ([(IntKind.i64.wrap ((IntKind.i64.wrap (a_1 * a_0.Geo.Blocks)) + v2))] : List Int)))
    else
      some v3) NN (y1, ([] : List Int))

set_option maxHeartbeats 4000000 in
theorem L_impl_BadTable_spares (a_0 : BadTable) (a_1 : Int) {r : (List Int)} (h : p_impl_BadTable_spares a_0 a_1 = some r) : callL E 288 [.agg [IN a_0.Geo.Dies, IN a_0.Geo.Blocks, IN a_0.Geo.Pages, IN a_0.Spare, .d (.arr (a_0.Bad.map rI)), .d (.arr (a_0.Remap.map rI))], IN a_1] ([] : Fo) = some (.d (.arr (r.map rI)), ([] : Fo)) := by
  unfold p_impl_BadTable_spares at h
  refine callW (fu := Try.f288) rfl rfl rfl NN ?_
  intro lp cl hlp hcl
  conv => lhs; whnf
  obtain ⟨y1, h_y1, h⟩ := callK_inv h
  rw [cl_eq hcl (L_impl_BadTable_primary a_0 h_y1)]
  rotate_left
  · show _ = _; kernel_rfl
  · show _ = _; kernel_rfl
  conv => lhs; whnf
  refine loop_iter hlp (fun ((v2, v3) : (Int × (List Int))) => ([.dead, IN a_1, .bp 0 0, .dead, .dead, .sl 1, IN v2] ++ List.replicate 20 .dead : List V)) (fun ((v2, v3) : (Int × (List Int))) => ([some (.box [IN a_0.Geo.Dies, IN a_0.Geo.Blocks, IN a_0.Geo.Pages, IN a_0.Spare, .d (.arr (a_0.Bad.map rI)), .d (.arr (a_0.Remap.map rI))]), some (.arr 2 1 (v3.map rI))] : Fo)) (fun (r : (List Int)) => ((.d (.arr (r.map rI)) : V), ([] : Fo))) ?_ (y1, ([] : List Int)) _ (fun kk => by kernel_rfl) h
  clear h
  rintro next_nx4 nx4 hnx4 ⟨v2, v3⟩ r h
  try dsimp only at h
  conv => lhs; whnf
  cases hb5 : (decide (v2 < a_0.Geo.Blocks))
  · replace h := ifF h (decF hb5); conv => lhs; whnf
    obtain rfl := Option.some.inj h; show _ = _; kernel_rfl

  · replace h := ifT h (decT hb5); conv => lhs; whnf
    obtain ⟨hg6, h⟩ := grd_inv h
    rw [app_eq hg6 ?h1 ?h2]
    case h1 => first | exact rfl | (simp only [List.length_map, List.length_cons, List.length_nil]; done) | (rw [List.length_map]; rfl)
    case h2 => exact rfl
    conv => lhs; whnf
    first | (rw [map_app_of (r := rI) (l := v3) (m := ([(IntKind.i64.wrap ((IntKind.i64.wrap (a_1 * a_0.Geo.Blocks)) + v2))] : List Int)) ?hh]; case hh => exact rfl) | skip
    exact hnx4 _ _ _ _ (fun kk => by kernel_rfl) h

noncomputable def p_impl_BadTable_remapOk (a_0 : BadTable) (a_1 : Int) (a_2 : Int) : Option Bool :=
  callK (p_impl_BadTable_home a_0 a_1) fun y1 =>
  if a_2 = y1 then
    callK (p_impl_BadTable_isBad a_0 a_2) fun y3 =>
    some (!y3)
  else
    callK (p_impl_BadTable_isBad a_0 a_2) fun y4 =>
    if y4 = true then
      some false
    else
      callK (p_impl_BadTable_isBad a_0 y1) fun y6 =>
      if y6 = true then
        grd (a_0.Geo.Blocks ≠ 0) <|
        callK (p_impl_BadTable_spares a_0 (IntKind.i64.wrap (Int.tdiv y1 a_0.Geo.Blocks))) fun y8 =>
        callK (p_slices_Contains y8 a_2) fun y9 =>
        some y9
      else
        some false

set_option maxHeartbeats 4000000 in
theorem L_impl_BadTable_remapOk (a_0 : BadTable) (a_1 : Int) (a_2 : Int) {r : Bool} (h : p_impl_BadTable_remapOk a_0 a_1 a_2 = some r) : callL E 229 [.agg [IN a_0.Geo.Dies, IN a_0.Geo.Blocks, IN a_0.Geo.Pages, IN a_0.Spare, .d (.arr (a_0.Bad.map rI)), .d (.arr (a_0.Remap.map rI))], IN a_1, IN a_2] ([] : Fo) = some (BO r, ([] : Fo)) := by
  unfold p_impl_BadTable_remapOk at h
  refine callW (fu := Try.f229) rfl rfl rfl NN ?_
  intro lp cl hlp hcl
  conv => lhs; whnf
  obtain ⟨y1, h_y1, h⟩ := callK_inv h
  rw [cl_eq hcl (L_impl_BadTable_home a_0 a_1 h_y1)]
  rotate_left
  · show _ = _; kernel_rfl
  · show _ = _; kernel_rfl
  conv => lhs; whnf
  cases hb2 : (a_2 == y1)
  · replace h := ifF h (beqF hb2); conv => lhs; whnf
    obtain ⟨y4, h_y4, h⟩ := callK_inv h
    rw [cl_eq hcl (L_impl_BadTable_isBad a_0 a_2 h_y4)]
    rotate_left
    · show _ = _; kernel_rfl
    · show _ = _; kernel_rfl
    conv => lhs; whnf
    cases hb5 : y4
    · replace h := ifF h (booF hb5); conv => lhs; whnf
      try (rw [hb5]; conv => lhs; whnf)
      try (rw [hb5]; conv => lhs; whnf)
      obtain ⟨y6, h_y6, h⟩ := callK_inv h
      rw [cl_eq hcl (L_impl_BadTable_isBad a_0 y1 h_y6)]
      rotate_left
      · show _ = _; kernel_rfl
      · show _ = _; kernel_rfl
      conv => lhs; whnf
      try (rw [hb5]; conv => lhs; whnf)
      cases hb7 : y6
      · replace h := ifF h (booF hb7); conv => lhs; whnf
        try (rw [hb7]; conv => lhs; whnf)
        try (rw [hb7]; conv => lhs; whnf)
        try (rw [hb7]; conv => lhs; whnf)
        try (rw [hb7]; conv => lhs; whnf)
        try (rw [hb7]; conv => lhs; whnf)
        try (rw [hb7]; conv => lhs; whnf)
        try (rw [hb7]; conv => lhs; whnf)
        try (rw [hb7]; conv => lhs; whnf)
        try (rw [hb7]; conv => lhs; whnf)
        obtain rfl := Option.some.inj h; show _ = _; kernel_rfl

      · replace h := ifT h hb7; conv => lhs; whnf
        try (rw [hb7]; conv => lhs; whnf)
        try (rw [hb7]; conv => lhs; whnf)
        try (rw [hb7]; conv => lhs; whnf)
        try (rw [hb7]; conv => lhs; whnf)
        try (rw [hb7]; conv => lhs; whnf)
        obtain ⟨hg10, h⟩ := grd_inv h
        rw [quo_run _ _ _ _ hg10]
        conv => lhs; whnf
        try (rw [hb7]; conv => lhs; whnf)
        obtain ⟨y8, h_y8, h⟩ := callK_inv h
        rw [cl_eq hcl (L_impl_BadTable_spares a_0 (IntKind.i64.wrap (Int.tdiv y1 a_0.Geo.Blocks)) h_y8)]
        rotate_left
        · show _ = _; kernel_rfl
        · show _ = _; kernel_rfl
        conv => lhs; whnf
        try (rw [hb7]; conv => lhs; whnf)
        try (rw [hb7]; conv => lhs; whnf)
        obtain ⟨y9, h_y9, h⟩ := callK_inv h
        rw [cl_eq hcl (L_slices_Contains y8 a_2 h_y9)]
        rotate_left
        · show _ = _; kernel_rfl
        · show _ = _; kernel_rfl
        conv => lhs; whnf
        try (rw [hb7]; conv => lhs; whnf)
        obtain rfl := Option.some.inj h; show _ = _; kernel_rfl

    · replace h := ifT h hb5; conv => lhs; whnf
      try (rw [hb5]; conv => lhs; whnf)
      try (rw [hb5]; conv => lhs; whnf)
      try (rw [hb5]; conv => lhs; whnf)
      obtain rfl := Option.some.inj h; show _ = _; kernel_rfl

  · replace h := ifT h (beqT hb2); conv => lhs; whnf
    obtain ⟨y3, h_y3, h⟩ := callK_inv h
    rw [cl_eq hcl (L_impl_BadTable_isBad a_0 a_2 h_y3)]
    rotate_left
    · show _ = _; kernel_rfl
    · show _ = _; kernel_rfl
    conv => lhs; whnf
    obtain rfl := Option.some.inj h; show _ = _; kernel_rfl


noncomputable def p_impl_ValidBadTable (a_0 : BadTable) : Option Bool :=
  callK (p_impl_ValidGeometry a_0.Geo) fun y1 =>
  if y1 = true then
    callK (p_impl_spareOk a_0.Geo a_0.Spare) fun y3 =>
    if y3 = true then
      callK (p_impl_blocksOk a_0.Geo a_0.Bad) fun y5 =>
      if y5 = true then
        callK (p_impl_BadTable_logical a_0) fun y7 =>
        if ¬ (a_0.Remap.length : Int) = y7 then
          some false
        else
          grd (a_0.Remap.length < 4611686018427387904) <|
          forK a_0.Remap (fun (i16 : Nat) x18 (_ : Unit) (nx17 : Unit → Option _) =>
            callK (p_impl_BadTable_remapOk a_0 (i16 : Int) x18) fun y19 =>
            if y19 = true then
              grd (0 ≤ 0 ∧ 0 ≤ (i16 : Int) ∧ (i16 : Int) ≤ (a_0.Remap.length : Int)) <|
              callK (p_slices_Contains ((a_0.Remap.drop (Int.toNat 0)).take (Int.toNat (i16 : Int) - Int.toNat 0)) x18) fun y21 =>
              if y21 = true then
                some false
              else
                nx17 ()
            else
              some false) () (fun (_ : Unit) =>
            some true)
      else
        some false
    else
      some false
  else
    some false

set_option maxHeartbeats 4000000 in
theorem L_impl_ValidBadTable (a_0 : BadTable) {r : Bool} (h : p_impl_ValidBadTable a_0 = some r) : callL E 139 [.agg [IN a_0.Geo.Dies, IN a_0.Geo.Blocks, IN a_0.Geo.Pages, IN a_0.Spare, .d (.arr (a_0.Bad.map rI)), .d (.arr (a_0.Remap.map rI))]] ([] : Fo) = some (BO r, ([] : Fo)) := by
  unfold p_impl_ValidBadTable at h
  refine callW (fu := Try.f139) rfl rfl rfl NN ?_
  intro lp cl hlp hcl
  conv => lhs; whnf
  obtain ⟨y1, h_y1, h⟩ := callK_inv h
  rw [cl_eq hcl (L_impl_ValidGeometry a_0.Geo h_y1)]
  rotate_left
  · show _ = _; kernel_rfl
  · show _ = _; kernel_rfl
  conv => lhs; whnf
  cases hb2 : y1
  · replace h := ifF h (booF hb2); conv => lhs; whnf
    try (rw [hb2]; conv => lhs; whnf)
    try (rw [hb2]; conv => lhs; whnf)
    try (rw [hb2]; conv => lhs; whnf)
    try (rw [hb2]; conv => lhs; whnf)
    try (rw [hb2]; conv => lhs; whnf)
    try (rw [hb2]; conv => lhs; whnf)
    obtain rfl := Option.some.inj h; show _ = _; kernel_rfl

  · replace h := ifT h hb2
    try rw [hb2] at h
    conv => lhs; whnf
    try (rw [hb2]; conv => lhs; whnf)
    try (rw [hb2]; conv => lhs; whnf)
    try (rw [hb2]; conv => lhs; whnf)
    try (rw [hb2]; conv => lhs; whnf)
    obtain ⟨y3, h_y3, h⟩ := callK_inv h
    rw [cl_eq hcl (L_impl_spareOk a_0.Geo a_0.Spare h_y3)]
    rotate_left
    · show _ = _; kernel_rfl
    · show _ = _; kernel_rfl
    conv => lhs; whnf
    try (rw [hb2]; conv => lhs; whnf)
    try (rw [hb2]; conv => lhs; whnf)
    cases hb4 : y3
    · replace h := ifF h (booF hb4); conv => lhs; whnf
      try (rw [hb4]; conv => lhs; whnf)
      try (rw [hb4]; conv => lhs; whnf)
      try (rw [hb4]; conv => lhs; whnf)
      try (rw [hb4]; conv => lhs; whnf)
      try (rw [hb4]; conv => lhs; whnf)
      try (rw [hb4]; conv => lhs; whnf)
      obtain rfl := Option.some.inj h; show _ = _; kernel_rfl

    · replace h := ifT h hb4; conv => lhs; whnf
      try (rw [hb4]; conv => lhs; whnf)
      try (rw [hb4]; conv => lhs; whnf)
      try (rw [hb4]; conv => lhs; whnf)
      try (rw [hb4]; conv => lhs; whnf)
      obtain ⟨y5, h_y5, h⟩ := callK_inv h
      rw [cl_eq hcl (L_impl_blocksOk a_0.Geo a_0.Bad h_y5)]
      rotate_left
      · show _ = _; kernel_rfl
      · show _ = _; kernel_rfl
      conv => lhs; whnf
      try (rw [hb4]; conv => lhs; whnf)
      try (rw [hb4]; conv => lhs; whnf)
      cases hb6 : y5
      · replace h := ifF h (booF hb6); conv => lhs; whnf
        try (rw [hb6]; conv => lhs; whnf)
        try (rw [hb6]; conv => lhs; whnf)
        try (rw [hb6]; conv => lhs; whnf)
        try (rw [hb6]; conv => lhs; whnf)
        try (rw [hb6]; conv => lhs; whnf)
        try (rw [hb6]; conv => lhs; whnf)
        obtain rfl := Option.some.inj h; show _ = _; kernel_rfl

      · replace h := ifT h hb6; conv => lhs; whnf
        try (rw [hb6]; conv => lhs; whnf)
        try (rw [hb6]; conv => lhs; whnf)
        try rw [len_of (l := a_0.Remap) (r := rI)]
        try (rw [hb6]; conv => lhs; whnf)
        try (rw [hb6]; conv => lhs; whnf)
        obtain ⟨y7, h_y7, h⟩ := callK_inv h
        rw [cl_eq hcl (L_impl_BadTable_logical a_0 h_y7)]
        rotate_left
        · show _ = _; kernel_rfl
        · show _ = _; kernel_rfl
        conv => lhs; whnf
        try (rw [hb6]; conv => lhs; whnf)
        try (rw [hb6]; conv => lhs; whnf)
        cases hb8 : ((a_0.Remap.length : Int) != y7)
        · replace h := ifF h ((fun h => not_not_intro (bneF h)) hb8); conv => lhs; whnf
          try rw [len_of (l := a_0.Remap) (r := rI)]
          obtain ⟨hl_i16, h⟩ := grd_inv h
          refine loop_for hlp (l := a_0.Remap) hl_i16 (fun (i16 : Nat) (_ : Unit) => ([.dead, .bp 0 0, .dead, .dead, .dead, .dead, .dead, .dead, .dead, .dead, .dead, .dead, .dead, .dead, .dead, .dead, .dead, .dead, .dead, .dead, .dead, .dead, .dead, .dead, .dead, .dead, .dead, .dead, .dead, .dead, .dead, .dead, .dead, .dead, .d (.arr (a_0.Remap.map rI)), IN (a_0.Remap.length : Int), IN (i16 : Int)] ++ List.replicate 18 .dead : List V)) (fun (i16 : Nat) (_ : Unit) => ([some (.box [IN a_0.Geo.Dies, IN a_0.Geo.Blocks, IN a_0.Geo.Pages, IN a_0.Spare, .d (.arr (a_0.Bad.map rI)), .d (.arr (a_0.Remap.map rI))])] : Fo)) (fun (r : Bool) => ((BO r : V), ([] : Fo))) ?_ ?_ () _ (fun kk => by kernel_rfl) h
          · clear h
            rintro next_nx17 nx17 i16 hi_i16 hnx17 ⟨⟩ r h
            try dsimp only at h
            have hn_i16 : i16 < 4611686018427387904 := by omega
            have hx_x18 := get_map rI a_0.Remap i16 hi_i16
            generalize a_0.Remap[i16] = x18 at h hx_x18
            have hd_i16 : (decide ((i16 : Int) < (a_0.Remap.length : Int))) = true := decide_eq_true (by omega)
            conv => lhs; whnf
            try (first | rw [hd_i16] | (split; (first | (rename_i hx; exact absurd (hd_i16.symm.trans hx) (by decide)) | (rotate_left; rename_i hx; exact absurd (hd_i16.symm.trans hx) (by decide)))))
            conv => lhs; whnf
            try (rw [decide_eq_true hq_x18]; conv => lhs; whnf)
            rw [hx_x18]
            conv => lhs; whnf
            rw [hx_x18]
            conv => lhs; whnf
            obtain ⟨y19, h_y19, h⟩ := callK_inv h
            rw [cl_eq hcl (L_impl_BadTable_remapOk a_0 (i16 : Int) x18 h_y19)]
            rotate_left
            · show _ = _; kernel_rfl
            · show _ = _; kernel_rfl
            conv => lhs; whnf
            cases hb20 : y19
            · replace h := ifF h (booF hb20); conv => lhs; whnf
              try (rw [hb20]; conv => lhs; whnf)
              try (rw [hb20]; conv => lhs; whnf)
              try (rw [hb20]; conv => lhs; whnf)
              try (rw [hb20]; conv => lhs; whnf)
              try (rw [hb20]; conv => lhs; whnf)
              try (rw [hb20]; conv => lhs; whnf)
              obtain rfl := Option.some.inj h; show _ = _; kernel_rfl

            · replace h := ifT h hb20; conv => lhs; whnf
              try (rw [hb20]; conv => lhs; whnf)
              try (rw [hb20]; conv => lhs; whnf)
              try (rw [hb20]; conv => lhs; whnf)
              obtain ⟨hg23, h⟩ := grd_inv h
              try (rw [allLen_map rI _ rI_len]; conv => lhs; whnf)
              try rw [List.length_map]
              try (rw [decide_eq_true hg23.1]; conv => lhs; whnf)
              try (rw [decide_eq_true hg23.2.1]; conv => lhs; whnf)
              try (rw [decide_eq_true hg23.2.2])
              conv => lhs; whnf
              try rw [cut_of (r := rI) (l := a_0.Remap)]
              try (rw [hb20]; conv => lhs; whnf)
              try (rw [hb20]; conv => lhs; whnf)
              obtain ⟨y21, h_y21, h⟩ := callK_inv h
              rw [cl_eq hcl (L_slices_Contains ((a_0.Remap.drop (Int.toNat 0)).take (Int.toNat (i16 : Int) - Int.toNat 0)) x18 h_y21)]
              rotate_left
              · show _ = _; kernel_rfl
              · show _ = _; kernel_rfl
              conv => lhs; whnf
              try (rw [hb20]; conv => lhs; whnf)
              cases hb22 : y21
              · replace h := ifF h (booF hb22); conv => lhs; whnf
                rw [wrap_nat i16 (by have := hn_i16; omega)]
                exact hnx17 _ _ _ _ (fun kk => by kernel_rfl) h
              · replace h := ifT h hb22; conv => lhs; whnf
                obtain rfl := Option.some.inj h; show _ = _; kernel_rfl

          · clear h
            rintro next_nx17 ⟨⟩ r h
            try dsimp only at h
            have hd_i16 : (decide ((a_0.Remap.length : Int) < (a_0.Remap.length : Int))) = false := decide_eq_false (by omega)
            conv => lhs; whnf
            try (first | rw [hd_i16] | (split; (first | (rename_i hx; exact absurd (hd_i16.symm.trans hx) (by decide)) | (rotate_left; rename_i hx; exact absurd (hd_i16.symm.trans hx) (by decide)))))
            conv => lhs; whnf
            obtain rfl := Option.some.inj h; show _ = _; kernel_rfl

        · replace h := ifT h (bneT hb8); conv => lhs; whnf
          obtain rfl := Option.some.inj h; show _ = _; kernel_rfl


noncomputable def p_impl_Flash_clone (a_0 : Flash) : Option (List Block) :=
  grd (appOk a_0.Blocks.length 48 = true) <|
  grd ((a_0.Blocks.length : Int) < 4611686018427387904) <|
  forI (a_0.Blocks.length : Int) (fun (i6 : Nat) (v7 : List Block) (nx8 : (List Block) → Option _) =>
    getK v7 (i6 : Int) fun x9 =>
    grd (appOk x9.Pages.length 16 = true) <|
    nx8 (v7.set (Int.toNat (i6 : Int)) x9)) a_0.Blocks (fun (v7 : List Block) =>
    grd ((Int.toNat (a_0.Blocks.length : Int)) = v7.length) <|
    some v7)

set_option maxHeartbeats 4000000 in
theorem L_impl_Flash_clone (a_0 : Flash) {r : (List Block)} (h : p_impl_Flash_clone a_0 = some r) : callL E 117 [.agg [IN a_0.Geo.Dies, IN a_0.Geo.Blocks, IN a_0.Geo.Pages, .d (.arr (a_0.Blocks.map rBlock)), IN a_0.Fuse, IN a_0.Keep, BO a_0.Off, IN a_0.Ops]] ([] : Fo) = some (.agg [IN a_0.Geo.Dies, IN a_0.Geo.Blocks, IN a_0.Geo.Pages, .nsl 0, IN a_0.Fuse, IN a_0.Keep, BO a_0.Off, IN a_0.Ops], ([some (.nst ⟨91, 4, 3, 9, 1⟩ r.length (r.map rBlock))] : Fo)) := by
  unfold p_impl_Flash_clone at h
  refine callW (fu := Try.f117) rfl rfl rfl NN ?_
  intro lp cl hlp hcl
  conv => lhs; whnf
  obtain ⟨hg11, h⟩ := grd_inv h
  rw [cl_eq hcl (f_cloneN (rows := a_0.Blocks.map rBlock) rfl (app_eq hg11 (List.length_map ..) rfl) (allLen_map rBlock _ rBlock_len _) rfl rfl rfl)]
  rotate_left
  · exact rfl
  · exact rfl
  conv => lhs; whnf
  try rw [len_of (l := a_0.Blocks) (r := rBlock)]
  obtain ⟨hl_i6, h⟩ := grd_inv h
  refine loop_forI hlp (n := (a_0.Blocks.length : Int)) hl_i6 (fun (i6 : Nat) (v7 : List Block) => ([.dead, .bp 0 0, .bp 1 0, .dead, .dead, .dead, .dead, .dead, .dead, .dead, IN (a_0.Blocks.length : Int), IN (i6 : Int)] ++ List.replicate 16 .dead : List V)) (fun (i6 : Nat) (v7 : List Block) => ([some (.box [IN a_0.Geo.Dies, IN a_0.Geo.Blocks, IN a_0.Geo.Pages, .nsl 2, IN a_0.Fuse, IN a_0.Keep, BO a_0.Off, IN a_0.Ops]), some (.box [IN 0, IN 0, IN 0, .d (.arr (([] : List Block).map rBlock)), IN 0, IN 0, BO false, IN 0]), some (.nst ⟨91, 4, 3, 9, 1⟩ i6 (v7.map rBlock))] : Fo)) (fun (r : (List Block)) => ((.agg [IN a_0.Geo.Dies, IN a_0.Geo.Blocks, IN a_0.Geo.Pages, .nsl 0, IN a_0.Fuse, IN a_0.Keep, BO a_0.Off, IN a_0.Ops] : V), ([some (.nst ⟨91, 4, 3, 9, 1⟩ r.length (r.map rBlock))] : Fo))) ?_ ?_ a_0.Blocks _ (fun kk => by kernel_rfl) h
  · clear h
    rintro next_nx8 nx8 i6 hi_i6 hnx8 v7 r h
    try dsimp only at h
    have hn_i6 : i6 < 4611686018427387904 := by omega
    have hd_i6 : (decide ((i6 : Int) < (a_0.Blocks.length : Int))) = true := decide_eq_true (by omega)
    conv => lhs; whnf
    try (first | rw [hd_i6] | (split; (first | (rename_i hx; exact absurd (hd_i6.symm.trans hx) (by decide)) | (rotate_left; rename_i hx; exact absurd (hd_i6.symm.trans hx) (by decide)))))
    conv => lhs; whnf
    obtain ⟨x9, hq_x9, hx_x9', h⟩ := getK_inv h
    have hx_x9 := get_of (r := rBlock) hx_x9'
    try (rw [decide_eq_true hq_x9]; conv => lhs; whnf)
    rw [hx_x9]
    conv => lhs; whnf
    rw [hx_x9]
    conv => lhs; whnf
    conv => lhs; whnf
    try (rw [blt_no]; conv => lhs; whnf)
    try (rw [blt_nat]; conv => lhs; whnf)
    obtain ⟨hg12, h⟩ := grd_inv h
    rw [cl_eq hcl (f_clone (rows := x9.Pages.map rS) rfl (app_eq hg12 (List.length_map ..) rfl) (allLen_map rS _ rS_len _) rfl)]
    rotate_left
    · exact rfl
    · exact rfl
    conv => lhs; whnf
    try (rw [decide_eq_true hq_x9]; conv => lhs; whnf)
    rw [hx_x9]
    conv => lhs; whnf
    rw [hx_x9]
    conv => lhs; whnf
    conv => lhs; whnf
    try (rw [beq_yes]; conv => lhs; whnf)
    try (rw [beq_toNat]; conv => lhs; whnf)
    first | (rw [map_set_of (r := rBlock) (l := v7) (x := x9) ?hh]; case hh => exact rfl) | skip
    rw [wrap_nat i6 (by have := hn_i6; omega)]
    exact hnx8 _ _ _ _ (fun kk => by kernel_rfl) h
  · clear h
    rintro next_nx8 v7 r h
    try dsimp only at h
    have hd_i6 : (decide (((Int.toNat (a_0.Blocks.length : Int)) : Int) < (a_0.Blocks.length : Int))) = false := decide_eq_false (by omega)
    conv => lhs; whnf
    try (first | rw [hd_i6] | (split; (first | (rename_i hx; exact absurd (hd_i6.symm.trans hx) (by decide)) | (rotate_left; rename_i hx; exact absurd (hd_i6.symm.trans hx) (by decide)))))
    conv => lhs; whnf
    obtain ⟨hN10, h⟩ := grd_inv h; conv => lhs; whnf
    obtain rfl := Option.some.inj h
    try (conv => rhs; simp only [List.length_set, List.length_append, List.length_cons, List.length_nil, Nat.zero_add, ← hN10])
    try simp only [List.length_set]
    show _ = _; kernel_rfl

noncomputable def p_impl_MarkBadBlocks (a_0 : Flash) (a_1 : BadTable) : Option (Flash × Int) :=
  callK (p_impl_ValidFlash a_0) fun y1 =>
  if y1 = true then
    callK (p_impl_ValidBadTable a_1) fun y3 =>
    if y3 = true then
      if ((a_0.Geo.Dies == a_1.Geo.Dies) && ((a_0.Geo.Blocks == a_1.Geo.Blocks) && ((a_0.Geo.Pages == a_1.Geo.Pages) && true))) = true then
        callK (p_impl_Flash_clone a_0) fun y6 =>
        grd (a_1.Bad.length < 4611686018427387904) <|
        forK a_1.Bad (fun (i12 : Nat) x15 (v13 : List Block) (nx14 : (List Block) → Option _) =>
          getK v13 x15 fun x16 =>
          nx14 (v13.set (Int.toNat x15) (⟨x16.Erases, x16.Next, true, x16.Pages⟩ : Block))) y6 (fun (v13 : List Block) =>
          some ((⟨a_0.Geo, v13, a_0.Fuse, a_0.Keep, a_0.Off, a_0.Ops⟩ : Flash), 0))
      else
        some ((⟨⟨0, 0, 0⟩, ([] : List Block), 0, 0, false, 0⟩ : Flash), 5)
    else
      some ((⟨⟨0, 0, 0⟩, ([] : List Block), 0, 0, false, 0⟩ : Flash), 1)
  else
    some ((⟨⟨0, 0, 0⟩, ([] : List Block), 0, 0, false, 0⟩ : Flash), 1)

set_option maxHeartbeats 4000000 in
theorem L_impl_MarkBadBlocks (a_0 : Flash) (a_1 : BadTable) {r : (Flash × Int)} (h : p_impl_MarkBadBlocks a_0 a_1 = some r) : callL E 51 [.agg [IN a_0.Geo.Dies, IN a_0.Geo.Blocks, IN a_0.Geo.Pages, .d (.arr (a_0.Blocks.map rBlock)), IN a_0.Fuse, IN a_0.Keep, BO a_0.Off, IN a_0.Ops], .agg [IN a_1.Geo.Dies, IN a_1.Geo.Blocks, IN a_1.Geo.Pages, IN a_1.Spare, .d (.arr (a_1.Bad.map rI)), .d (.arr (a_1.Remap.map rI))]] ([] : Fo) = some (.tup [.agg [IN r.1.Geo.Dies, IN r.1.Geo.Blocks, IN r.1.Geo.Pages, .d (.arr (r.1.Blocks.map rBlock)), IN r.1.Fuse, IN r.1.Keep, BO r.1.Off, IN r.1.Ops], IN r.2], ([] : Fo)) := by
  unfold p_impl_MarkBadBlocks at h
  refine callW (fu := Try.f51) rfl rfl rfl NN ?_
  intro lp cl hlp hcl
  conv => lhs; whnf
  obtain ⟨y1, h_y1, h⟩ := callK_inv h
  rw [cl_eq hcl (L_impl_ValidFlash a_0 h_y1)]
  rotate_left
  · show _ = _; kernel_rfl
  · show _ = _; kernel_rfl
  conv => lhs; whnf
  cases hb2 : y1
  · replace h := ifF h (booF hb2); conv => lhs; whnf
    try (rw [hb2]; conv => lhs; whnf)
    try (rw [hb2]; conv => lhs; whnf)
    try (rw [hb2]; conv => lhs; whnf)
    obtain rfl := Option.some.inj h; show _ = _; kernel_rfl

  · replace h := ifT h hb2; conv => lhs; whnf
    try (rw [hb2]; conv => lhs; whnf)
    obtain ⟨y3, h_y3, h⟩ := callK_inv h
    rw [cl_eq hcl (L_impl_ValidBadTable a_1 h_y3)]
    rotate_left
    · show _ = _; kernel_rfl
    · show _ = _; kernel_rfl
    conv => lhs; whnf
    try (rw [hb2]; conv => lhs; whnf)
    try (rw [hb2]; conv => lhs; whnf)
    cases hb4 : y3
    · replace h := ifF h (booF hb4); conv => lhs; whnf
      obtain rfl := Option.some.inj h; show _ = _; kernel_rfl

    · replace h := ifT h hb4; conv => lhs; whnf
      cases hb5 : ((a_0.Geo.Dies == a_1.Geo.Dies) && ((a_0.Geo.Blocks == a_1.Geo.Blocks) && ((a_0.Geo.Pages == a_1.Geo.Pages) && true)))
      · replace h := ifF h (booF hb5); conv => lhs; whnf
        obtain rfl := Option.some.inj h; show _ = _; kernel_rfl

      · replace h := ifT h hb5; conv => lhs; whnf
        obtain ⟨y6, h_y6, h⟩ := callK_inv h
        rw [cl_eq hcl (L_impl_Flash_clone a_0 h_y6)]
        rotate_left
        · show _ = _; kernel_rfl
        · show _ = _; kernel_rfl
        conv => lhs; whnf
        conv => lhs; whnf
        try (rw [litF_nst (f := rBlock) (g := rS) (p := fun x => x.Pages) (fun _ => rfl) (fun _ => rfl) (fun _ => rfl)]; conv => lhs; whnf)
        try rw [len_of (l := a_1.Bad) (r := rI)]
        obtain ⟨hl_i12, h⟩ := grd_inv h
        refine loop_for hlp (l := a_1.Bad) hl_i12 (fun (i12 : Nat) (v13 : List Block) => ([.dead, .dead, .dead, .dead, .bp 0 0, .dead, .bp 1 0, .dead, .dead, .dead, .dead, .dead, .dead, .dead, .dead, .dead, .dead, .dead, .dead, .dead, .dead, .dead, .dead, .dead, .dead, .dead, .dead, .dead, .dead, .d (.arr (a_1.Bad.map rI)), IN (a_1.Bad.length : Int), IN (i12 : Int)] ++ List.replicate 10 .dead : List V)) (fun (i12 : Nat) (v13 : List Block) => ([some (.box [IN 0, IN 0, IN 0, .d (.arr (([] : List Block).map rBlock)), IN 0, IN 0, BO false, IN 0]), some (.box [IN a_0.Geo.Dies, IN a_0.Geo.Blocks, IN a_0.Geo.Pages, .nsl 2, IN a_0.Fuse, IN a_0.Keep, BO a_0.Off, IN a_0.Ops]), some (.nst ⟨91, 4, 3, 9, 1⟩ v13.length (v13.map rBlock))] : Fo)) (fun (r : (Flash × Int)) => ((.tup [.agg [IN r.1.Geo.Dies, IN r.1.Geo.Blocks, IN r.1.Geo.Pages, .d (.arr (r.1.Blocks.map rBlock)), IN r.1.Fuse, IN r.1.Keep, BO r.1.Off, IN r.1.Ops], IN r.2] : V), ([] : Fo))) ?_ ?_ y6 _ (fun kk => by kernel_rfl) h
        · clear h
          rintro next_nx14 nx14 i12 hi_i12 hnx14 v13 r h
          try dsimp only at h
          have hn_i12 : i12 < 4611686018427387904 := by omega
          have hx_x15 := get_map rI a_1.Bad i12 hi_i12
          generalize a_1.Bad[i12] = x15 at h hx_x15
          have hd_i12 : (decide ((i12 : Int) < (a_1.Bad.length : Int))) = true := decide_eq_true (by omega)
          conv => lhs; whnf
          try (first | rw [hd_i12] | (split; (first | (rename_i hx; exact absurd (hd_i12.symm.trans hx) (by decide)) | (rotate_left; rename_i hx; exact absurd (hd_i12.symm.trans hx) (by decide)))))
          conv => lhs; whnf
          try (rw [decide_eq_true hq_x15]; conv => lhs; whnf)
          rw [hx_x15]
          conv => lhs; whnf
          rw [hx_x15]
          conv => lhs; whnf
          obtain ⟨x16, hq_x16, hx_x16', h⟩ := getK_inv h
          have hx_x16 := get_of (r := rBlock) hx_x16'
          try (rw [decide_eq_true hq_x16]; conv => lhs; whnf)
          rw [hx_x16]
          conv => lhs; whnf
          rw [hx_x16]
          conv => lhs; whnf
          first | (rw [map_set_of (r := rBlock) (l := v13) (x := (⟨x16.Erases, x16.Next, true, x16.Pages⟩ : Block)) ?hh]; case hh => exact rfl) | skip
          rw [wrap_nat i12 (by have := hn_i12; omega)]
          exact hnx14 _ _ _ _ (fun kk => by (try simp only [List.length_set, List.length_append, List.length_cons, List.length_nil, Nat.zero_add]); kernel_rfl) h
        · clear h
          rintro next_nx14 v13 r h
          try dsimp only at h
          have hd_i12 : (decide ((a_1.Bad.length : Int) < (a_1.Bad.length : Int))) = false := decide_eq_false (by omega)
          conv => lhs; whnf
          try (first | rw [hd_i12] | (split; (first | (rename_i hx; exact absurd (hd_i12.symm.trans hx) (by decide)) | (rotate_left; rename_i hx; exact absurd (hd_i12.symm.trans hx) (by decide)))))
          conv => lhs; whnf
          obtain rfl := Option.some.inj h; show _ = _; kernel_rfl


noncomputable def p_spec_l15Own (a_0 : Flash) : Option (List Block) :=
  grd (a_0.Blocks.length < 4611686018427387904) <|
  forK a_0.Blocks (fun (i5 : Nat) x8 (v6 : List Block) (nx7 : (List Block) → Option _) =>
    grd (appOk (0 + x8.Pages.length) 16 = true) <|
    grd (appOk (v6.length + 1) 48 = true) <|
    nx7 (v6 ++ ([x8] : List Block))) ([] : List Block) (fun (v6 : List Block) =>
    some v6)

set_option maxHeartbeats 4000000 in
theorem L_spec_l15Own (a_0 : Flash) {r : (List Block)} (h : p_spec_l15Own a_0 = some r) : callL E 113 [.agg [IN a_0.Geo.Dies, IN a_0.Geo.Blocks, IN a_0.Geo.Pages, .d (.arr (a_0.Blocks.map rBlock)), IN a_0.Fuse, IN a_0.Keep, BO a_0.Off, IN a_0.Ops]] ([] : Fo) = some (.agg [IN a_0.Geo.Dies, IN a_0.Geo.Blocks, IN a_0.Geo.Pages, .nsl 0, IN a_0.Fuse, IN a_0.Keep, BO a_0.Off, IN a_0.Ops], ([some (.nst ⟨91, 4, 3, 9, 1⟩ r.length (r.map rBlock))] : Fo)) := by
  unfold p_spec_l15Own at h
  refine callW (fu := Try.f113) rfl rfl rfl NN ?_
  intro lp cl hlp hcl
  conv => lhs; whnf
  obtain ⟨hl_i5, h⟩ := grd_inv h
  refine loop_for hlp (l := a_0.Blocks) hl_i5 (fun (i5 : Nat) (v6 : List Block) => ([.dead, .bp 0 0, .bp 1 0, .bp 2 0, IN (i5 : Int)] ++ List.replicate 28 .dead : List V)) (fun (i5 : Nat) (v6 : List Block) => ([some (.box [IN a_0.Geo.Dies, IN a_0.Geo.Blocks, IN a_0.Geo.Pages, .d (.arr (a_0.Blocks.map rBlock)), IN a_0.Fuse, IN a_0.Keep, BO a_0.Off, IN a_0.Ops]), some (.box [IN 0, IN 0, IN 0, .d (.arr (([] : List Block).map rBlock)), IN 0, IN 0, BO false, IN 0]), some (.box [IN a_0.Geo.Dies, IN a_0.Geo.Blocks, IN a_0.Geo.Pages, .nsl 3, IN a_0.Fuse, IN a_0.Keep, BO a_0.Off, IN a_0.Ops]), some (.nst ⟨91, 4, 3, 9, 1⟩ v6.length (v6.map rBlock))] : Fo)) (fun (r : (List Block)) => ((.agg [IN a_0.Geo.Dies, IN a_0.Geo.Blocks, IN a_0.Geo.Pages, .nsl 0, IN a_0.Fuse, IN a_0.Keep, BO a_0.Off, IN a_0.Ops] : V), ([some (.nst ⟨91, 4, 3, 9, 1⟩ r.length (r.map rBlock))] : Fo))) ?_ ?_ ([] : List Block) _ (fun kk => by kernel_rfl) h
  · clear h
    rintro next_nx7 nx7 i5 hi_i5 hnx7 v6 r h
    try dsimp only at h
    have hn_i5 : i5 < 4611686018427387904 := by omega
    have hx_x8 := get_map rBlock a_0.Blocks i5 hi_i5
    generalize a_0.Blocks[i5] = x8 at h hx_x8
    have hd_i5 : (decide ((i5 : Int) < (a_0.Blocks.length : Int))) = true := decide_eq_true (by omega)
    conv => lhs; whnf
    try rw [len_of (l := a_0.Blocks) (r := rBlock)]
    try (first | rw [hd_i5] | (split; (first | (rename_i hx; exact absurd (hd_i5.symm.trans hx) (by decide)) | (rotate_left; rename_i hx; exact absurd (hd_i5.symm.trans hx) (by decide)))))
    conv => lhs; whnf
    try (rw [decide_eq_true hq_x8]; conv => lhs; whnf)
    rw [hx_x8]
    conv => lhs; whnf
    rw [hx_x8]
    conv => lhs; whnf
    obtain ⟨hg9, h⟩ := grd_inv h
    rw [app_eq hg9 ?h1 ?h2]
    case h1 => first | exact rfl | (simp only [List.length_map, List.length_cons, List.length_nil]; done) | (rw [List.length_map]; rfl)
    case h2 => exact rfl
    conv => lhs; whnf
    rw [allLen_map rS _ rS_len]
    conv => lhs; whnf
    first | (rw [nil_app_of (r := rS) (m := x8.Pages) ?hh]; case hh => exact rfl) | skip
    conv => lhs; whnf
    try (rw [beq_len (n := v6.length) (l := v6) (by simp only [List.length_set, List.length_append, List.length_cons, List.length_nil, Nat.zero_add])]; conv => lhs; whnf)
    obtain ⟨hg10, h⟩ := grd_inv h
    rw [app_eq hg10 ?h1 ?h2]
    case h1 => first | exact rfl | (rw [List.length_map]; done) | (rw [List.length_map]; rfl)
    case h2 => exact rfl
    conv => lhs; whnf
    first | (rw [map_app_of (r := rBlock) (l := v6) (m := ([x8] : List Block)) ?hh]; case hh => exact rfl) | skip
    rw [wrap_nat i5 (by have := hn_i5; omega)]
    exact hnx7 _ _ _ _ (fun kk => by (try simp only [List.length_set, List.length_append, List.length_cons, List.length_nil, Nat.zero_add]); kernel_rfl) h
  · clear h
    rintro next_nx7 v6 r h
    try dsimp only at h
    have hd_i5 : (decide ((a_0.Blocks.length : Int) < (a_0.Blocks.length : Int))) = false := decide_eq_false (by omega)
    conv => lhs; whnf
    try rw [len_of (l := a_0.Blocks) (r := rBlock)]
    try (first | rw [hd_i5] | (split; (first | (rename_i hx; exact absurd (hd_i5.symm.trans hx) (by decide)) | (rotate_left; rename_i hx; exact absurd (hd_i5.symm.trans hx) (by decide)))))
    conv => lhs; whnf
    obtain rfl := Option.some.inj h; show _ = _; kernel_rfl


noncomputable def p_spec_MarkBadBlocks (a_0 : Flash) (a_1 : BadTable) : Option (Flash × Int) :=
  callK (p_spec_ValidFlash a_0) fun y1 =>
  if y1 = true then
    callK (p_spec_ValidBadTable a_1) fun y3 =>
    if y3 = true then
      if ((a_0.Geo.Dies == a_1.Geo.Dies) && ((a_0.Geo.Blocks == a_1.Geo.Blocks) && ((a_0.Geo.Pages == a_1.Geo.Pages) && true))) = true then
        callK (p_spec_l15Own a_0) fun y6 =>
        grd (a_1.Bad.length < 4611686018427387904) <|
        forK a_1.Bad (fun (i12 : Nat) x15 (v13 : List Block) (nx14 : (List Block) → Option _) =>
          getK v13 x15 fun x16 =>
          nx14 (v13.set (Int.toNat x15) (⟨x16.Erases, x16.Next, true, x16.Pages⟩ : Block))) y6 (fun (v13 : List Block) =>
          some ((⟨a_0.Geo, v13, a_0.Fuse, a_0.Keep, a_0.Off, a_0.Ops⟩ : Flash), 0))
      else
        some ((⟨⟨0, 0, 0⟩, ([] : List Block), 0, 0, false, 0⟩ : Flash), 5)
    else
      some ((⟨⟨0, 0, 0⟩, ([] : List Block), 0, 0, false, 0⟩ : Flash), 1)
  else
    some ((⟨⟨0, 0, 0⟩, ([] : List Block), 0, 0, false, 0⟩ : Flash), 1)

set_option maxHeartbeats 4000000 in
theorem L_spec_MarkBadBlocks (a_0 : Flash) (a_1 : BadTable) {r : (Flash × Int)} (h : p_spec_MarkBadBlocks a_0 a_1 = some r) : callL E 52 [.agg [IN a_0.Geo.Dies, IN a_0.Geo.Blocks, IN a_0.Geo.Pages, .d (.arr (a_0.Blocks.map rBlock)), IN a_0.Fuse, IN a_0.Keep, BO a_0.Off, IN a_0.Ops], .agg [IN a_1.Geo.Dies, IN a_1.Geo.Blocks, IN a_1.Geo.Pages, IN a_1.Spare, .d (.arr (a_1.Bad.map rI)), .d (.arr (a_1.Remap.map rI))]] ([] : Fo) = some (.tup [.agg [IN r.1.Geo.Dies, IN r.1.Geo.Blocks, IN r.1.Geo.Pages, .d (.arr (r.1.Blocks.map rBlock)), IN r.1.Fuse, IN r.1.Keep, BO r.1.Off, IN r.1.Ops], IN r.2], ([] : Fo)) := by
  unfold p_spec_MarkBadBlocks at h
  refine callW (fu := Try.f52) rfl rfl rfl NN ?_
  intro lp cl hlp hcl
  conv => lhs; whnf
  obtain ⟨y1, h_y1, h⟩ := callK_inv h
  rw [cl_eq hcl (L_spec_ValidFlash a_0 h_y1)]
  rotate_left
  · show _ = _; kernel_rfl
  · show _ = _; kernel_rfl
  conv => lhs; whnf
  cases hb2 : y1
  · replace h := ifF h (booF hb2); conv => lhs; whnf
    try (rw [hb2]; conv => lhs; whnf)
    try (rw [hb2]; conv => lhs; whnf)
    try (rw [hb2]; conv => lhs; whnf)
    obtain rfl := Option.some.inj h; show _ = _; kernel_rfl

  · replace h := ifT h hb2; conv => lhs; whnf
    try (rw [hb2]; conv => lhs; whnf)
    obtain ⟨y3, h_y3, h⟩ := callK_inv h
    rw [cl_eq hcl (L_spec_ValidBadTable a_1 h_y3)]
    rotate_left
    · show _ = _; kernel_rfl
    · show _ = _; kernel_rfl
    conv => lhs; whnf
    try (rw [hb2]; conv => lhs; whnf)
    try (rw [hb2]; conv => lhs; whnf)
    cases hb4 : y3
    · replace h := ifF h (booF hb4); conv => lhs; whnf
      obtain rfl := Option.some.inj h; show _ = _; kernel_rfl

    · replace h := ifT h hb4; conv => lhs; whnf
      cases hb5 : ((a_0.Geo.Dies == a_1.Geo.Dies) && ((a_0.Geo.Blocks == a_1.Geo.Blocks) && ((a_0.Geo.Pages == a_1.Geo.Pages) && true)))
      · replace h := ifF h (booF hb5); conv => lhs; whnf
        obtain rfl := Option.some.inj h; show _ = _; kernel_rfl

      · replace h := ifT h hb5; conv => lhs; whnf
        obtain ⟨y6, h_y6, h⟩ := callK_inv h
        rw [cl_eq hcl (L_spec_l15Own a_0 h_y6)]
        rotate_left
        · show _ = _; kernel_rfl
        · show _ = _; kernel_rfl
        conv => lhs; whnf
        conv => lhs; whnf
        try (rw [litF_nst (f := rBlock) (g := rS) (p := fun x => x.Pages) (fun _ => rfl) (fun _ => rfl) (fun _ => rfl)]; conv => lhs; whnf)
        obtain ⟨hl_i12, h⟩ := grd_inv h
        refine loop_for hlp (l := a_1.Bad) hl_i12 (fun (i12 : Nat) (v13 : List Block) => ([.dead, .dead, .dead, .bp 0 0, .bp 1 0, .dead, .bp 2 0, IN (i12 : Int)] ++ List.replicate 34 .dead : List V)) (fun (i12 : Nat) (v13 : List Block) => ([some (.box [IN a_1.Geo.Dies, IN a_1.Geo.Blocks, IN a_1.Geo.Pages, IN a_1.Spare, .d (.arr (a_1.Bad.map rI)), .d (.arr (a_1.Remap.map rI))]), some (.box [IN 0, IN 0, IN 0, .d (.arr (([] : List Block).map rBlock)), IN 0, IN 0, BO false, IN 0]), some (.box [IN a_0.Geo.Dies, IN a_0.Geo.Blocks, IN a_0.Geo.Pages, .nsl 3, IN a_0.Fuse, IN a_0.Keep, BO a_0.Off, IN a_0.Ops]), some (.nst ⟨91, 4, 3, 9, 1⟩ v13.length (v13.map rBlock))] : Fo)) (fun (r : (Flash × Int)) => ((.tup [.agg [IN r.1.Geo.Dies, IN r.1.Geo.Blocks, IN r.1.Geo.Pages, .d (.arr (r.1.Blocks.map rBlock)), IN r.1.Fuse, IN r.1.Keep, BO r.1.Off, IN r.1.Ops], IN r.2] : V), ([] : Fo))) ?_ ?_ y6 _ (fun kk => by kernel_rfl) h
        · clear h
          rintro next_nx14 nx14 i12 hi_i12 hnx14 v13 r h
          try dsimp only at h
          have hn_i12 : i12 < 4611686018427387904 := by omega
          have hx_x15 := get_map rI a_1.Bad i12 hi_i12
          generalize a_1.Bad[i12] = x15 at h hx_x15
          have hd_i12 : (decide ((i12 : Int) < (a_1.Bad.length : Int))) = true := decide_eq_true (by omega)
          conv => lhs; whnf
          try rw [len_of (l := a_1.Bad) (r := rI)]
          try (first | rw [hd_i12] | (split; (first | (rename_i hx; exact absurd (hd_i12.symm.trans hx) (by decide)) | (rotate_left; rename_i hx; exact absurd (hd_i12.symm.trans hx) (by decide)))))
          conv => lhs; whnf
          try (rw [decide_eq_true hq_x15]; conv => lhs; whnf)
          rw [hx_x15]
          conv => lhs; whnf
          rw [hx_x15]
          conv => lhs; whnf
          obtain ⟨x16, hq_x16, hx_x16', h⟩ := getK_inv h
          have hx_x16 := get_of (r := rBlock) hx_x16'
          try (rw [decide_eq_true hq_x16]; conv => lhs; whnf)
          rw [hx_x16]
          conv => lhs; whnf
          rw [hx_x16]
          conv => lhs; whnf
          first | (rw [map_set_of (r := rBlock) (l := v13) (x := (⟨x16.Erases, x16.Next, true, x16.Pages⟩ : Block)) ?hh]; case hh => exact rfl) | skip
          rw [wrap_nat i12 (by have := hn_i12; omega)]
          exact hnx14 _ _ _ _ (fun kk => by (try simp only [List.length_set, List.length_append, List.length_cons, List.length_nil, Nat.zero_add]); kernel_rfl) h
        · clear h
          rintro next_nx14 v13 r h
          try dsimp only at h
          have hd_i12 : (decide ((a_1.Bad.length : Int) < (a_1.Bad.length : Int))) = false := decide_eq_false (by omega)
          conv => lhs; whnf
          try rw [len_of (l := a_1.Bad) (r := rI)]
          try (first | rw [hd_i12] | (split; (first | (rename_i hx; exact absurd (hd_i12.symm.trans hx) (by decide)) | (rotate_left; rename_i hx; exact absurd (hd_i12.symm.trans hx) (by decide)))))
          conv => lhs; whnf
          obtain rfl := Option.some.inj h; show _ = _; kernel_rfl


noncomputable def p_impl_ScanBadBlocks (a_0 : Flash) (a_1 : Int) : Option (List Int) :=
  callK (p_impl_ValidFlash a_0) fun y1 =>
  if y1 = true then
    grd (a_0.Blocks.length < 4611686018427387904) <|
    forK a_0.Blocks (fun (i9 : Nat) x12 (v10 : List Int) (nx11 : (List Int) → Option _) =>
      if x12.Bad = true then
        grd (appOk (v10.length + 1) 8 = true) <|
        nx11 (v10 ++ ([(i9 : Int)] : List Int))
      else
        if x12.Erases ≥ a_1 then
          grd (appOk (v10.length + 1) 8 = true) <|
          nx11 (v10 ++ ([(i9 : Int)] : List Int))
        else
          nx11 v10) ([] : List Int) (fun (v10 : List Int) =>
      some v10)
  else
    some ([] : List Int)

set_option maxHeartbeats 4000000 in
theorem L_impl_ScanBadBlocks (a_0 : Flash) (a_1 : Int) {r : (List Int)} (h : p_impl_ScanBadBlocks a_0 a_1 = some r) : callL E 53 [.agg [IN a_0.Geo.Dies, IN a_0.Geo.Blocks, IN a_0.Geo.Pages, .d (.arr (a_0.Blocks.map rBlock)), IN a_0.Fuse, IN a_0.Keep, BO a_0.Off, IN a_0.Ops], IN a_1] ([] : Fo) = some (.d (.arr (r.map rI)), ([] : Fo)) := by
  unfold p_impl_ScanBadBlocks at h
  refine callW (fu := Try.f53) rfl rfl rfl NN ?_
  intro lp cl hlp hcl
  conv => lhs; whnf
  obtain ⟨y1, h_y1, h⟩ := callK_inv h
  rw [cl_eq hcl (L_impl_ValidFlash a_0 h_y1)]
  rotate_left
  · show _ = _; kernel_rfl
  · show _ = _; kernel_rfl
  conv => lhs; whnf
  cases hb2 : y1
  · replace h := ifF h (booF hb2); conv => lhs; whnf
    obtain rfl := Option.some.inj h; show _ = _; kernel_rfl

  · replace h := ifT h hb2; conv => lhs; whnf
    try rw [len_of (l := a_0.Blocks) (r := rBlock)]
    obtain ⟨hl_i9, h⟩ := grd_inv h
    refine loop_for hlp (l := a_0.Blocks) hl_i9 (fun (i9 : Nat) (v10 : List Int) => ([.dead, IN a_1, .dead, .dead, .dead, .sl 0, .dead, .dead, .dead, .dead, .dead, .dead, .d (.arr (a_0.Blocks.map rBlock)), IN (a_0.Blocks.length : Int), IN (i9 : Int)] ++ List.replicate 18 .dead : List V)) (fun (i9 : Nat) (v10 : List Int) => ([some (.arr 2 1 (v10.map rI))] : Fo)) (fun (r : (List Int)) => ((.d (.arr (r.map rI)) : V), ([] : Fo))) ?_ ?_ ([] : List Int) _ (fun kk => by kernel_rfl) h
    · clear h
      rintro next_nx11 nx11 i9 hi_i9 hnx11 v10 r h
      try dsimp only at h
      have hn_i9 : i9 < 4611686018427387904 := by omega
      have hx_x12 := get_map rBlock a_0.Blocks i9 hi_i9
      generalize a_0.Blocks[i9] = x12 at h hx_x12
      have hd_i9 : (decide ((i9 : Int) < (a_0.Blocks.length : Int))) = true := decide_eq_true (by omega)
      conv => lhs; whnf
      try (first | rw [hd_i9] | (split; (first | (rename_i hx; exact absurd (hd_i9.symm.trans hx) (by decide)) | (rotate_left; rename_i hx; exact absurd (hd_i9.symm.trans hx) (by decide)))))
      conv => lhs; whnf
      try (rw [decide_eq_true hq_x12]; conv => lhs; whnf)
      rw [hx_x12]
      conv => lhs; whnf
      rw [hx_x12]
      conv => lhs; whnf
      cases hb13 : x12.Bad
      · replace h := ifF h (booF hb13); conv => lhs; whnf
        try (rw [hb13]; conv => lhs; whnf)
        try (rw [hb13]; conv => lhs; whnf)
        try (rw [hb13]; conv => lhs; whnf)
        try (rw [hb13]; conv => lhs; whnf)
        cases hb14 : (decide (x12.Erases ≥ a_1))
        · replace h := ifF h (decF hb14); conv => lhs; whnf
          rw [wrap_nat i9 (by have := hn_i9; omega)]
          exact hnx11 _ _ _ _ (fun kk => by kernel_rfl) h
        · replace h := ifT h (decT hb14); conv => lhs; whnf
          obtain ⟨hg15, h⟩ := grd_inv h
          rw [app_eq hg15 ?h1 ?h2]
          case h1 => first | exact rfl | (simp only [List.length_map, List.length_cons, List.length_nil]; done) | (rw [List.length_map]; rfl)
          case h2 => exact rfl
          conv => lhs; whnf
          first | (rw [map_app_of (r := rI) (l := v10) (m := ([(i9 : Int)] : List Int)) ?hh]; case hh => exact rfl) | skip
          rw [wrap_nat i9 (by have := hn_i9; omega)]
          exact hnx11 _ _ _ _ (fun kk => by kernel_rfl) h
      · replace h := ifT h hb13; conv => lhs; whnf
        try (rw [hb13]; conv => lhs; whnf)
        try (rw [hb13]; conv => lhs; whnf)
        try (rw [hb13]; conv => lhs; whnf)
        try (rw [hb13]; conv => lhs; whnf)
        obtain ⟨hg16, h⟩ := grd_inv h
        rw [app_eq hg16 ?h1 ?h2]
        case h1 => first | exact rfl | (simp only [List.length_map, List.length_cons, List.length_nil]; done) | (rw [List.length_map]; rfl)
        case h2 => exact rfl
        conv => lhs; whnf
        first | (rw [map_app_of (r := rI) (l := v10) (m := ([(i9 : Int)] : List Int)) ?hh]; case hh => exact rfl) | skip
        rw [wrap_nat i9 (by have := hn_i9; omega)]
        exact hnx11 _ _ _ _ (fun kk => by kernel_rfl) h
    · clear h
      rintro next_nx11 v10 r h
      try dsimp only at h
      have hd_i9 : (decide ((a_0.Blocks.length : Int) < (a_0.Blocks.length : Int))) = false := decide_eq_false (by omega)
      conv => lhs; whnf
      try (first | rw [hd_i9] | (split; (first | (rename_i hx; exact absurd (hd_i9.symm.trans hx) (by decide)) | (rotate_left; rename_i hx; exact absurd (hd_i9.symm.trans hx) (by decide)))))
      conv => lhs; whnf
      obtain rfl := Option.some.inj h; show _ = _; kernel_rfl


noncomputable def p_laws_FnMarkedBlocks (a_0 : List Int) : Option Bool :=
  if (a_0.length : Int) > 400 then
    some true
  else
    callK (p_spec_DrawMarkBadBlocks a_0) fun y2 =>
    callK (p_impl_MarkBadBlocks y2.1 y2.2) fun y3 =>
    callK (p_spec_MarkBadBlocks y2.1 y2.2) fun y4 =>
    if ¬ y3.2 = y4.2 then
      some false
    else
      if ¬ y3.2 = 0 then
        some true
      else
        callK (p_impl_ScanBadBlocks y3.1 1001) fun y7 =>
        callK (p_spec_ValidFlash y3.1) fun y8 =>
        if y8 = true then
          if ¬ (y3.1.Blocks.length : Int) = (y2.1.Blocks.length : Int) then
            some false
          else
            grd (y3.1.Blocks.length < 4611686018427387904) <|
            forK y3.1.Blocks (fun (i31 : Nat) x34 (v32 : Int) (nx33 : Int → Option _) =>
              getK y2.1.Blocks (i31 : Int) fun x35 =>
              grd (y2.2.Bad.length < 4611686018427387904) <|
              forK y2.2.Bad (fun (i41 : Nat) x44 (v42 : Bool) (nx43 : Bool → Option _) =>
                if v42 = true then
                  nx43 true
                else
                  nx43 (x44 == (i31 : Int))) x35.Bad (fun (v42 : Bool) =>
                if (x34.Bad == v42) = true then
                  if v42 = true then
                    if v32 ≥ (y7.length : Int) then
                      some false
                    else
                      getK y7 v32 fun x49 =>
                      if ¬ x49 = (i31 : Int) then
                        some false
                      else
                        nx33 (IntKind.i64.wrap (v32 + 1))
                  else
                    nx33 v32
                else
                  some false)) 0 (fun (v32 : Int) =>
              some (v32 == (y7.length : Int)))
        else
          some false

set_option maxHeartbeats 4000000 in
theorem L_laws_FnMarkedBlocks (a_0 : List Int) {r : Bool} (h : p_laws_FnMarkedBlocks a_0 = some r) : callL E 8 [.d (.arr (a_0.map rU))] ([] : Fo) = some (BO r, ([] : Fo)) := by
  unfold p_laws_FnMarkedBlocks at h
  refine callW (fu := Try.f8) rfl rfl rfl NN ?_
  intro lp cl hlp hcl
  conv => lhs; whnf
  try rw [len_of (l := a_0) (r := rU)]
  cases hb1 : (decide ((a_0.length : Int) > 400))
  · replace h := ifF h (decF hb1); conv => lhs; whnf
    obtain ⟨y2, h_y2, h⟩ := callK_inv h
    rw [cl_eq hcl (L_spec_DrawMarkBadBlocks a_0 h_y2)]
    rotate_left
    · show _ = _; kernel_rfl
    · show _ = _; kernel_rfl
    conv => lhs; whnf
    obtain ⟨y3, h_y3, h⟩ := callK_inv h
    rw [cl_eq hcl (L_impl_MarkBadBlocks y2.1 y2.2 h_y3)]
    rotate_left
    · show _ = _; kernel_rfl
    · show _ = _; kernel_rfl
    conv => lhs; whnf
    obtain ⟨y4, h_y4, h⟩ := callK_inv h
    rw [cl_eq hcl (L_spec_MarkBadBlocks y2.1 y2.2 h_y4)]
    rotate_left
    · show _ = _; kernel_rfl
    · show _ = _; kernel_rfl
    conv => lhs; whnf
    cases hb5 : (y3.2 != y4.2)
    · replace h := ifF h ((fun h => not_not_intro (bneF h)) hb5); conv => lhs; whnf
      cases hb6 : (y3.2 != 0)
      · replace h := ifF h ((fun h => not_not_intro (bneF h)) hb6); conv => lhs; whnf
        obtain ⟨y7, h_y7, h⟩ := callK_inv h
        rw [cl_eq hcl (L_impl_ScanBadBlocks y3.1 1001 h_y7)]
        rotate_left
        · show _ = _; kernel_rfl
        · show _ = _; kernel_rfl
        conv => lhs; whnf
        obtain ⟨y8, h_y8, h⟩ := callK_inv h
        rw [cl_eq hcl (L_spec_ValidFlash y3.1 h_y8)]
        rotate_left
        · show _ = _; kernel_rfl
        · show _ = _; kernel_rfl
        conv => lhs; whnf
        cases hb9 : y8
        · replace h := ifF h (booF hb9); conv => lhs; whnf
          try (rw [hb9]; conv => lhs; whnf)
          try (rw [hb9]; conv => lhs; whnf)
          try (rw [hb9]; conv => lhs; whnf)
          try (rw [hb9]; conv => lhs; whnf)
          try (rw [hb9]; conv => lhs; whnf)
          try (rw [hb9]; conv => lhs; whnf)
          try (rw [hb9]; conv => lhs; whnf)
          obtain rfl := Option.some.inj h; show _ = _; kernel_rfl

        · replace h := ifT h hb9; conv => lhs; whnf
          try (rw [hb9]; conv => lhs; whnf)
          try (rw [hb9]; conv => lhs; whnf)
          try rw [len_of (l := y3.1.Blocks) (r := rBlock)]
          try (rw [hb9]; conv => lhs; whnf)
          try (rw [hb9]; conv => lhs; whnf)
          try (rw [hb9]; conv => lhs; whnf)
          try rw [len_of (l := y2.1.Blocks) (r := rBlock)]
          try (rw [hb9]; conv => lhs; whnf)
          try (rw [hb9]; conv => lhs; whnf)
          cases hb10 : ((y3.1.Blocks.length : Int) != (y2.1.Blocks.length : Int))
          · replace h := ifF h ((fun h => not_not_intro (bneF h)) hb10); conv => lhs; whnf
            obtain ⟨hl_i31, h⟩ := grd_inv h
            refine loop_for hlp (l := y3.1.Blocks) hl_i31 (fun (i31 : Nat) (v32 : Int) => ([.dead, .dead, .dead, .bp 0 0, .bp 1 0, .bp 2 0, .dead, .dead, .dead, .d (.arr (y7.map rI)), IN v32, IN (i31 : Int)] ++ List.replicate 98 .dead : List V)) (fun (i31 : Nat) (v32 : Int) => ([some (.box [IN y2.1.Geo.Dies, IN y2.1.Geo.Blocks, IN y2.1.Geo.Pages, .d (.arr (y2.1.Blocks.map rBlock)), IN y2.1.Fuse, IN y2.1.Keep, BO y2.1.Off, IN y2.1.Ops]), some (.box [IN y2.2.Geo.Dies, IN y2.2.Geo.Blocks, IN y2.2.Geo.Pages, IN y2.2.Spare, .d (.arr (y2.2.Bad.map rI)), .d (.arr (y2.2.Remap.map rI))]), some (.box [IN y3.1.Geo.Dies, IN y3.1.Geo.Blocks, IN y3.1.Geo.Pages, .d (.arr (y3.1.Blocks.map rBlock)), IN y3.1.Fuse, IN y3.1.Keep, BO y3.1.Off, IN y3.1.Ops])] : Fo)) (fun (r : Bool) => ((BO r : V), ([] : Fo))) ?_ ?_ 0 _ (fun kk => by kernel_rfl) h
            · clear h
              rintro next_nx33 nx33 i31 hi_i31 hnx33 v32 r h
              try dsimp only at h
              have hn_i31 : i31 < 4611686018427387904 := by omega
              have hx_x34 := get_map rBlock y3.1.Blocks i31 hi_i31
              generalize y3.1.Blocks[i31] = x34 at h hx_x34
              have hd_i31 : (decide ((i31 : Int) < (y3.1.Blocks.length : Int))) = true := decide_eq_true (by omega)
              conv => lhs; whnf
              try rw [len_of (l := y3.1.Blocks) (r := rBlock)]
              try (first | rw [hd_i31] | (split; (first | (rename_i hx; exact absurd (hd_i31.symm.trans hx) (by decide)) | (rotate_left; rename_i hx; exact absurd (hd_i31.symm.trans hx) (by decide)))))
              conv => lhs; whnf
              obtain ⟨x35, hq_x35, hx_x35', h⟩ := getK_inv h
              have hx_x35 := get_of (r := rBlock) hx_x35'
              try (rw [decide_eq_true hq_x35]; conv => lhs; whnf)
              rw [hx_x35]
              conv => lhs; whnf
              rw [hx_x35]
              conv => lhs; whnf
              obtain ⟨hl_i41, h⟩ := grd_inv h
              refine loop_for hlp (l := y2.2.Bad) hl_i41 (fun (i41 : Nat) (v42 : Bool) => ([.dead, .dead, .dead, .bp 0 0, .bp 1 0, .bp 2 0, .dead, .dead, .dead, .d (.arr (y7.map rI)), IN v32, IN (i31 : Int), BO v42, IN (i41 : Int)] ++ List.replicate 96 .dead : List V)) (fun (i41 : Nat) (v42 : Bool) => ([some (.box [IN y2.1.Geo.Dies, IN y2.1.Geo.Blocks, IN y2.1.Geo.Pages, .d (.arr (y2.1.Blocks.map rBlock)), IN y2.1.Fuse, IN y2.1.Keep, BO y2.1.Off, IN y2.1.Ops]), some (.box [IN y2.2.Geo.Dies, IN y2.2.Geo.Blocks, IN y2.2.Geo.Pages, IN y2.2.Spare, .d (.arr (y2.2.Bad.map rI)), .d (.arr (y2.2.Remap.map rI))]), some (.box [IN y3.1.Geo.Dies, IN y3.1.Geo.Blocks, IN y3.1.Geo.Pages, .d (.arr (y3.1.Blocks.map rBlock)), IN y3.1.Fuse, IN y3.1.Keep, BO y3.1.Off, IN y3.1.Ops])] : Fo)) (fun (r : Bool) => ((BO r : V), ([] : Fo))) ?_ ?_ x35.Bad _ (fun kk => by kernel_rfl) h
              · clear h
                rintro next_nx43 nx43 i41 hi_i41 hnx43 v42 r h
                try dsimp only at h
                have hn_i41 : i41 < 4611686018427387904 := by omega
                have hx_x44 := get_map rI y2.2.Bad i41 hi_i41
                generalize y2.2.Bad[i41] = x44 at h hx_x44
                have hd_i41 : (decide ((i41 : Int) < (y2.2.Bad.length : Int))) = true := decide_eq_true (by omega)
                conv => lhs; whnf
                try rw [len_of (l := y2.2.Bad) (r := rI)]
                try (first | rw [hd_i41] | (split; (first | (rename_i hx; exact absurd (hd_i41.symm.trans hx) (by decide)) | (rotate_left; rename_i hx; exact absurd (hd_i41.symm.trans hx) (by decide)))))
                conv => lhs; whnf
                cases hb45 : v42
                · replace h := ifF h (booF hb45); conv => lhs; whnf
                  try (rw [hb45]; conv => lhs; whnf)
                  try (rw [hb45]; conv => lhs; whnf)
                  try (rw [hb45]; conv => lhs; whnf)
                  try (rw [decide_eq_true hq_x44]; conv => lhs; whnf)
                  rw [hx_x44]
                  conv => lhs; whnf
                  try (rw [hb45]; conv => lhs; whnf)
                  rw [hx_x44]
                  conv => lhs; whnf
                  try (rw [hb45]; conv => lhs; whnf)
                  try (rw [hb45]; conv => lhs; whnf)
                  try (rw [hb45]; conv => lhs; whnf)
                  rw [wrap_nat i41 (by have := hn_i41; omega)]
                  exact hnx43 _ _ _ _ (fun kk => by kernel_rfl) h
                · replace h := ifT h hb45; conv => lhs; whnf
                  try (rw [hb45]; conv => lhs; whnf)
                  try (rw [hb45]; conv => lhs; whnf)
                  try (rw [hb45]; conv => lhs; whnf)
                  try (rw [hb45]; conv => lhs; whnf)
                  try (rw [hb45]; conv => lhs; whnf)
                  try (rw [hb45]; conv => lhs; whnf)
                  try (rw [hb45]; conv => lhs; whnf)
                  rw [wrap_nat i41 (by have := hn_i41; omega)]
                  exact hnx43 _ _ _ _ (fun kk => by kernel_rfl) h
              · clear h
                rintro next_nx43 v42 r h
                try dsimp only at h
                have hd_i41 : (decide ((y2.2.Bad.length : Int) < (y2.2.Bad.length : Int))) = false := decide_eq_false (by omega)
                conv => lhs; whnf
                try rw [len_of (l := y2.2.Bad) (r := rI)]
                try (first | rw [hd_i41] | (split; (first | (rename_i hx; exact absurd (hd_i41.symm.trans hx) (by decide)) | (rotate_left; rename_i hx; exact absurd (hd_i41.symm.trans hx) (by decide)))))
                conv => lhs; whnf
                try (rw [decide_eq_true hq_x34]; conv => lhs; whnf)
                rw [hx_x34]
                conv => lhs; whnf
                rw [hx_x34]
                conv => lhs; whnf
                cases hb46 : (x34.Bad == v42)
                · replace h := ifF h (booF hb46); conv => lhs; whnf
                  obtain rfl := Option.some.inj h; show _ = _; kernel_rfl

                · replace h := ifT h hb46; conv => lhs; whnf
                  cases hb47 : v42
                  · replace h := ifF h (booF hb47); conv => lhs; whnf
                    rw [wrap_nat i31 (by have := hn_i31; omega)]
                    exact hnx33 _ _ _ _ (fun kk => by kernel_rfl) h
                  · replace h := ifT h hb47; conv => lhs; whnf
                    try rw [len_of (l := y7) (r := rI)]
                    cases hb48 : (decide (v32 ≥ (y7.length : Int)))
                    · replace h := ifF h (decF hb48); conv => lhs; whnf
                      try (rw [hb48]; conv => lhs; whnf)
                      try (rw [hb48]; conv => lhs; whnf)
                      obtain ⟨x49, hq_x49, hx_x49', h⟩ := getK_inv h
                      have hx_x49 := get_of (r := rI) hx_x49'
                      try (rw [decide_eq_true hq_x49]; conv => lhs; whnf)
                      rw [hx_x49]
                      conv => lhs; whnf
                      try (rw [hb48]; conv => lhs; whnf)
                      rw [hx_x49]
                      conv => lhs; whnf
                      try (rw [hb48]; conv => lhs; whnf)
                      try (rw [hb48]; conv => lhs; whnf)
                      try (rw [hb48]; conv => lhs; whnf)
                      cases hb50 : (x49 != (i31 : Int))
                      · replace h := ifF h ((fun h => not_not_intro (bneF h)) hb50); conv => lhs; whnf
                        rw [wrap_nat i31 (by have := hn_i31; omega)]
                        exact hnx33 _ _ _ _ (fun kk => by kernel_rfl) h
                      · replace h := ifT h (bneT hb50); conv => lhs; whnf
                        obtain rfl := Option.some.inj h; show _ = _; kernel_rfl

                    · replace h := ifT h (decT hb48); conv => lhs; whnf
                      try (rw [hb48]; conv => lhs; whnf)
                      try (rw [hb48]; conv => lhs; whnf)
                      try (rw [hb48]; conv => lhs; whnf)
                      try (rw [hb48]; conv => lhs; whnf)
                      try (rw [hb48]; conv => lhs; whnf)
                      try (rw [hb48]; conv => lhs; whnf)
                      obtain rfl := Option.some.inj h; show _ = _; kernel_rfl

            · clear h
              rintro next_nx33 v32 r h
              try dsimp only at h
              have hd_i31 : (decide ((y3.1.Blocks.length : Int) < (y3.1.Blocks.length : Int))) = false := decide_eq_false (by omega)
              conv => lhs; whnf
              try rw [len_of (l := y3.1.Blocks) (r := rBlock)]
              try (first | rw [hd_i31] | (split; (first | (rename_i hx; exact absurd (hd_i31.symm.trans hx) (by decide)) | (rotate_left; rename_i hx; exact absurd (hd_i31.symm.trans hx) (by decide)))))
              conv => lhs; whnf
              try rw [len_of (l := y7) (r := rI)]
              obtain rfl := Option.some.inj h; show _ = _; kernel_rfl

          · replace h := ifT h (bneT hb10); conv => lhs; whnf
            obtain rfl := Option.some.inj h; show _ = _; kernel_rfl

      · replace h := ifT h (bneT hb6); conv => lhs; whnf
        obtain rfl := Option.some.inj h; show _ = _; kernel_rfl

    · replace h := ifT h (bneT hb5); conv => lhs; whnf
      obtain rfl := Option.some.inj h; show _ = _; kernel_rfl

  · replace h := ifT h (decT hb1); conv => lhs; whnf
    obtain rfl := Option.some.inj h; show _ = _; kernel_rfl

theorem amongO_ok {b : Int} {s : Sl00Src} (l : List Int) (hl : 0 < l.length) (hb : 0 ≤ b) (h : SrcOk (b + 2) s) : ∃ r s', p_spec_l00Src_among' s l = some (r, s') ∧ r ∈ l ∧ SrcOk b s' := by
  obtain ⟨r, s1, e1, ⟨b1, b2, b3⟩, o1⟩ := pick_ok (l.length : Int) hb h
  unfold p_spec_l00Src_among'
  have hr : r < (l.length : Int) := by
    rcases Nat.lt_or_ge 1 l.length with h | h
    · exact b2 (by omega)
    · have := b3 (by omega); omega
  rw [e1, callK_some, getK_in b1 hr]
  exact ⟨_, _, rfl, List.getElem_mem _, o1⟩

/-! ### A flash array: its size, its copy, comparison, marks -/
def cB (L : List Block) : Nat := (L.map fun b => b.Pages.length).sum
def Fit (L : List Block) : Prop := L.length + cB L ≤ 1048576
theorem cB_nil : cB [] = 0 := rfl
theorem cB_cons (b : Block) (L : List Block) : cB (b :: L) = b.Pages.length + cB L := by simp [cB]
theorem cB_app (L M : List Block) : cB (L ++ M) = cB L + cB M := by simp [cB]
theorem cB_mem {b : Block} {L : List Block} (h : b ∈ L) : b.Pages.length ≤ cB L := by
  induction L with
  | nil => simp at h
  | cons x L ih =>
    rw [cB_cons]
    rcases List.mem_cons.mp h with rfl | h
    · omega
    · have := ih h; omega
theorem cB_take (L : List Block) (i : Nat) : cB (L.take i) ≤ cB L := by
  have h := cB_app (L.take i) (L.drop i)
  rw [List.take_append_drop] at h
  omega
theorem cB_take1 (L : List Block) (i : Nat) (h : i < L.length) : cB (L.take (i + 1)) = cB (L.take i) + L[i].Pages.length := by
  rw [List.take_succ_eq_append_getElem h, cB_app, cB_cons, cB_nil]; omega
theorem Fit.pg {L : List Block} (h : Fit L) {b : Block} (hb : b ∈ L) : b.Pages.length ≤ 1048576 := by have := cB_mem hb; unfold Fit at h; omega
theorem Fit.len {L : List Block} (h : Fit L) : L.length ≤ 1048576 := by unfold Fit at h; omega

/-! ### Valid arrays -/
theorem szE (x : ByteArray) : (x.toList == (⟨#[]⟩ : ByteArray).toList) = true ↔ x.size = 0 := by
  rw [str_eq, decide_eq_true_eq]
  constructor
  · intro h; rw [h]; rfl
  · intro h
    apply bytes_ext
    have h2 := bl_len x
    rw [h] at h2
    exact List.eq_nil_of_length_eq_zero h2
theorem inR_iff (n lo hi : Int) : inR n lo hi = true ↔ lo ≤ n ∧ n ≤ hi := by
  unfold inR
  simp
def PgOk (P : List ByteArray) (nx : Int) : Prop := ∀ (i : Nat) (h : i < P.length), P[i].size = 0 ∨ (P[i].size = 91 ∧ (i : Int) < nx)
def BOk (P : Int) (b : Block) : Prop := (0 ≤ b.Erases ∧ b.Erases ≤ 1000) ∧ (0 ≤ b.Next ∧ b.Next ≤ P) ∧ (b.Pages.length : Int) = P ∧ PgOk b.Pages b.Next
theorem pl_sBlk (b : Block) (P : Int) (hb : b.Pages.length ≤ 1048576) : ∃ y, p_spec_l06Block b P = some y ∧ (y = true ↔ BOk P b) := by
  unfold p_spec_l06Block
  by_cases h1 : inR b.Erases 0 1000 = true
  rotate_left
  · rw [if_neg h1]; exact ⟨_, rfl, by simp, fun h => absurd ((inR_iff _ _ _).mpr h.1) h1⟩
  by_cases h2 : inR b.Next 0 P = true
  rotate_left
  · rw [if_pos h1, if_neg h2]; exact ⟨_, rfl, by simp, fun h => absurd ((inR_iff _ _ _).mpr h.2.1) h2⟩
  by_cases h3 : (b.Pages.length : Int) = P
  rotate_left
  · rw [if_pos h1, if_pos h2, if_pos h3]; exact ⟨_, rfl, by simp, fun h => absurd h.2.2.1 h3⟩
  rw [if_pos h1, if_pos h2, if_neg (by simpa using h3), grd_pos (by omega)]
  refine forI_ex (fun i _ => ∀ (j : Nat) (hj : j < b.Pages.length), j < i → b.Pages[j].size = 0 ∨ (b.Pages[j].size = 91 ∧ (j : Int) < b.Next)) (fun i hi s hs nx hnx => ?_) (fun s hs => ?_) () (fun j hj h => by omega)
  · have hi' : i < b.Pages.length := by omega
    have ext : (b.Pages[i].size = 0 ∨ (b.Pages[i].size = 91 ∧ (i : Int) < b.Next)) → ∃ r, nx () = some r ∧ (r = true ↔ BOk P b) := fun hc => hnx () fun j hj hlt => by
      by_cases hji : j = i
      · subst hji; exact hc
      · exact hs j hj (by omega)
    have no : ¬ (b.Pages[i].size = 0 ∨ (b.Pages[i].size = 91 ∧ (i : Int) < b.Next)) → ∃ r, some false = some r ∧ (r = true ↔ BOk P b) := fun hc => ⟨_, rfl, by simp, fun h => absurd (h.2.2.2 i hi') hc⟩
    rw [getK_lt hi']
    by_cases c1 : (ByteArray.size b.Pages[i] : Int) = 0
    · rw [if_neg (by simpa using c1)]; exact ext (.inl (by omega))
    rw [if_pos c1]
    by_cases c2 : (ByteArray.size b.Pages[i] : Int) = 91
    rotate_left
    · rw [if_pos c2]; exact no (by omega)
    rw [if_neg (by simpa using c2)]
    by_cases c3 : (i : Int) ≥ b.Next
    · rw [if_pos c3]; exact no (by omega)
    · rw [if_neg c3]; exact ext (.inr ⟨by omega, by omega⟩)
  · exact ⟨_, rfl, fun _ => ⟨(inR_iff _ _ _).mp h1, (inR_iff _ _ _).mp h2, h3, fun i hi => hs i hi (by omega)⟩, fun _ => rfl⟩
theorem pl_iBlk (b : Block) (g : Geometry) (hb : b.Pages.length ≤ 1048576) : ∃ y, p_impl_Geometry_blockOk g b = some y ∧ (y = true ↔ BOk g.Pages b) := by
  unfold p_impl_Geometry_blockOk
  by_cases h1 : inR b.Erases 0 1000 = true
  rotate_left
  · rw [if_neg h1]; exact ⟨_, rfl, by simp, fun h => absurd ((inR_iff _ _ _).mpr h.1) h1⟩
  by_cases h2 : inR b.Next 0 g.Pages = true
  rotate_left
  · rw [if_pos h1, if_neg h2]; exact ⟨_, rfl, by simp, fun h => absurd ((inR_iff _ _ _).mpr h.2.1) h2⟩
  by_cases h3 : (b.Pages.length : Int) = g.Pages
  rotate_left
  · rw [if_pos h1, if_pos h2, if_pos h3]; exact ⟨_, rfl, by simp, fun h => absurd h.2.2.1 h3⟩
  rw [if_pos h1, if_pos h2, if_neg (by simpa using h3), grd_pos (by omega)]
  refine forK_ex (fun i _ => ∀ (j : Nat) (hj : j < b.Pages.length), j < i → b.Pages[j].size = 0 ∨ (b.Pages[j].size = 91 ∧ (j : Int) < b.Next)) (fun i hi' s hs nx hnx => ?_) (fun s hs => ?_) () (fun j hj h => by omega)
  · have ext : (b.Pages[i].size = 0 ∨ (b.Pages[i].size = 91 ∧ (i : Int) < b.Next)) → ∃ r, nx () = some r ∧ (r = true ↔ BOk g.Pages b) := fun hc => hnx () fun j hj hlt => by
      by_cases hji : j = i
      · subst hji; exact hc
      · exact hs j hj (by omega)
    have no : ¬ (b.Pages[i].size = 0 ∨ (b.Pages[i].size = 91 ∧ (i : Int) < b.Next)) → ∃ r, some false = some r ∧ (r = true ↔ BOk g.Pages b) := fun hc => ⟨_, rfl, by simp, fun h => absurd (h.2.2.2 i hi') hc⟩
    by_cases c1 : (b.Pages[i].toList == (⟨#[]⟩ : ByteArray).toList) = true
    · rw [if_pos c1]; exact ext (.inl ((szE _).mp c1))
    rw [if_neg c1]
    have c1' : ¬ b.Pages[i].size = 0 := fun h => c1 ((szE _).mpr h)
    by_cases c2 : (ByteArray.size b.Pages[i] : Int) = 91
    rotate_left
    · rw [if_pos c2]; exact no (by omega)
    rw [if_neg (by simpa using c2)]
    by_cases c3 : (i : Int) ≥ b.Next
    · rw [if_pos c3]; exact no (by omega)
    · rw [if_neg c3]; exact ext (.inr ⟨by omega, by omega⟩)
  · exact ⟨_, rfl, fun _ => ⟨(inR_iff _ _ _).mp h1, (inR_iff _ _ _).mp h2, h3, fun i hi => hs i hi hi⟩, fun _ => rfl⟩
def GOk (g : Geometry) : Prop := (2 ≤ g.Dies ∧ g.Dies ≤ 3) ∧ (4 ≤ g.Blocks ∧ g.Blocks ≤ 12) ∧ (g.Pages = 8 ∨ g.Pages = 16)
theorem pl_sGeo (g : Geometry) : ∃ y, p_spec_ValidGeometry g = some y ∧ (y = true ↔ GOk g) := by
  unfold p_spec_ValidGeometry GOk
  rw [← inR_iff, ← inR_iff]
  cases h1 : inR g.Dies 2 3 <;> cases h2 : inR g.Blocks 4 12 <;> by_cases h3 : g.Pages = 8 <;> simp [h3]
theorem pl_iGeo (g : Geometry) : p_impl_ValidGeometry g = p_spec_ValidGeometry g := rfl
def LOk (P : Int) (L : List Block) : Prop := ∀ b ∈ L, BOk P b
def VF (f : Flash) : Prop := GOk f.Geo ∧ (f.Blocks.length : Int) = f.Geo.Dies * f.Geo.Blocks ∧ (-1 ≤ f.Fuse ∧ f.Fuse ≤ 1000000) ∧ (0 ≤ f.Keep ∧ f.Keep ≤ 91) ∧ 0 ≤ f.Ops ∧ LOk f.Geo.Pages f.Blocks
theorem GOk.all {g : Geometry} (h : GOk g) : 0 < g.Dies * g.Blocks ∧ g.Dies * g.Blocks ≤ 36 := by
  obtain ⟨⟨h1, h2⟩, ⟨h3, h4⟩, _⟩ := h
  have a1 : g.Dies * g.Blocks ≤ 3 * g.Blocks := Int.mul_le_mul_of_nonneg_right h2 (by omega)
  have a2 : 2 * g.Blocks ≤ g.Dies * g.Blocks := Int.mul_le_mul_of_nonneg_right h1 (by omega)
  omega
theorem GOk.wrap {g : Geometry} (h : GOk g) : IntKind.i64.wrap (g.Dies * g.Blocks) = g.Dies * g.Blocks := by
  have := h.all
  exact wrap_sm _ (by omega) (by omega)
theorem pl_sVF (f : Flash) (hF : Fit f.Blocks) : ∃ y, p_spec_ValidFlash f = some y ∧ (y = true ↔ VF f) := by
  unfold p_spec_ValidFlash
  obtain ⟨y, e, hy⟩ := pl_sGeo f.Geo
  rw [e, callK_some]
  by_cases h0 : y = true
  rotate_left
  · rw [if_neg h0]; exact ⟨_, rfl, by simp, fun h => absurd (hy.mpr h.1) h0⟩
  have hg := hy.mp h0
  rw [if_pos h0, hg.wrap]
  by_cases h1 : (f.Blocks.length : Int) = f.Geo.Dies * f.Geo.Blocks
  rotate_left
  · rw [if_pos h1]; exact ⟨_, rfl, by simp, fun h => absurd h.2.1 h1⟩
  rw [if_neg (by simpa using h1)]
  by_cases h2 : inR f.Fuse (-1) 1000000 = true
  rotate_left
  · rw [if_neg h2]; exact ⟨_, rfl, by simp, fun h => absurd ((inR_iff _ _ _).mpr h.2.2.1) h2⟩
  rw [if_pos h2]
  by_cases h3 : inR f.Keep 0 91 = true
  rotate_left
  · rw [if_neg h3]; exact ⟨_, rfl, by simp, fun h => absurd ((inR_iff _ _ _).mpr h.2.2.2.1) h3⟩
  rw [if_pos h3]
  by_cases h4 : f.Ops < 0
  · rw [if_pos h4]; exact ⟨_, rfl, by simp, fun h => absurd h.2.2.2.2.1 (by omega)⟩
  have hl := hF.len
  rw [if_neg h4, grd_pos (by omega)]
  refine forK_ex (fun i _ => ∀ (j : Nat) (hj : j < f.Blocks.length), j < i → BOk f.Geo.Pages f.Blocks[j]) (fun i hi s hs nx hnx => ?_) (fun s hs => ?_) () (fun j hj h => by omega)
  · obtain ⟨z, e2, hz⟩ := pl_sBlk f.Blocks[i] f.Geo.Pages (hF.pg (List.getElem_mem hi))
    rw [e2, callK_some]
    by_cases hz0 : z = true
    · rw [if_pos hz0]
      exact hnx () fun j hj hlt => by
        by_cases hji : j = i
        · subst hji; exact hz.mp hz0
        · exact hs j hj (by omega)
    · rw [if_neg hz0]; exact ⟨_, rfl, by simp, fun h => absurd (hz.mpr (h.2.2.2.2.2 _ (List.getElem_mem hi))) hz0⟩
  · refine ⟨_, rfl, fun _ => ⟨hg, h1, (inR_iff _ _ _).mp h2, (inR_iff _ _ _).mp h3, by omega, fun b hb => ?_⟩, fun _ => rfl⟩
    obtain ⟨j, hj, rfl⟩ := List.mem_iff_getElem.mp hb
    exact hs j hj hj
theorem pl_iVF (f : Flash) (hF : Fit f.Blocks) : ∃ y, p_impl_ValidFlash f = some y ∧ (y = true ↔ VF f) := by
  unfold p_impl_ValidFlash p_impl_Geometry_all
  obtain ⟨y, e, hy⟩ := pl_sGeo f.Geo
  rw [pl_iGeo, e, callK_some, callK_some]
  by_cases h0 : y = true
  rotate_left
  · rw [if_neg h0]; exact ⟨_, rfl, by simp, fun h => absurd (hy.mpr h.1) h0⟩
  have hg := hy.mp h0
  rw [if_pos h0, hg.wrap]
  by_cases h1 : (f.Blocks.length : Int) = f.Geo.Dies * f.Geo.Blocks
  rotate_left
  · rw [if_pos h1]; exact ⟨_, rfl, by simp, fun h => absurd h.2.1 h1⟩
  rw [if_neg (by simpa using h1)]
  by_cases h2 : inR f.Fuse (-1) 1000000 = true
  rotate_left
  · rw [if_neg h2]; exact ⟨_, rfl, by simp, fun h => absurd ((inR_iff _ _ _).mpr h.2.2.1) h2⟩
  rw [if_pos h2]
  by_cases h3 : inR f.Keep 0 91 = true
  rotate_left
  · rw [if_neg h3]; exact ⟨_, rfl, by simp, fun h => absurd ((inR_iff _ _ _).mpr h.2.2.2.1) h3⟩
  rw [if_pos h3]
  by_cases h4 : f.Ops < 0
  · rw [if_pos h4]; exact ⟨_, rfl, by simp, fun h => absurd h.2.2.2.2.1 (by omega)⟩
  have hl := hF.len
  have hix : ∃ r, p_slices_IndexFunc_impl_ValidFlash_c1 f.Blocks f = some r ∧ ((r ≥ 0) ↔ ¬ LOk f.Geo.Pages f.Blocks) := by
    unfold p_slices_IndexFunc_impl_ValidFlash_c1 p_impl_ValidFlash_c1
    rw [grd_pos (by omega)]
    refine forK_ex (fun i _ => ∀ (j : Nat) (hj : j < f.Blocks.length), j < i → BOk f.Geo.Pages f.Blocks[j]) (fun i hi s hs nx hnx => ?_) (fun s hs => ?_) () (fun j hj h => by omega)
    · obtain ⟨z, e2, hz⟩ := pl_iBlk f.Blocks[i] f.Geo (hF.pg (List.getElem_mem hi))
      rw [e2, callK_some, callK_some]
      cases z with
      | true =>
        rw [if_neg (by simp)]
        exact hnx () fun j hj hlt => by
          by_cases hji : j = i
          · subst hji; exact hz.mp rfl
          · exact hs j hj (by omega)
      | false =>
        rw [if_pos (by simp)]
        exact ⟨_, rfl, fun _ h => absurd (hz.mpr (h _ (List.getElem_mem hi))) (by simp), fun _ => by omega⟩
    · refine ⟨_, rfl, fun h => absurd h (by omega), fun h => absurd (fun b hb => ?_) h⟩
      obtain ⟨j, hj, rfl⟩ := List.mem_iff_getElem.mp hb
      exact hs j hj hj
  obtain ⟨r, er, hr⟩ := hix
  unfold p_slices_ContainsFunc_impl_ValidFlash_c1
  rw [if_neg h4, er]
  simp only [callK_some]
  refine ⟨_, rfl, ?_⟩
  rw [Bool.not_eq_true', decide_eq_false_iff_not, hr, Classical.not_not]
  exact ⟨fun h => ⟨hg, h1, (inR_iff _ _ _).mp h2, (inR_iff _ _ _).mp h3, by omega, h⟩, fun h => h.2.2.2.2.2⟩

/-! ### Texts drawn, sealed pages -/
theorem text15_ok {b : Int} (hb : 0 ≤ b) (n : Nat) (hn : n ≤ 100) {s : Sl00Src} (h : SrcOk (b + n) s) : ∃ t s', p_spec_l15Text (n : Int) s = some (t, s') ∧ t.size = n ∧ SrcOk b s' := by
  unfold p_spec_l15Text
  rw [grd_pos (by omega)]
  obtain ⟨r, e, g1, g2⟩ := forI_ex (n := (n : Int)) (Q := fun (r : ByteArray × Sl00Src) => r.1.size = n ∧ SrcOk b r.2)
    (f := fun (i6 : Nat) ((v7, v8) : (Sl00Src × (List Int))) (nx9 : (Sl00Src × (List Int)) → Option (ByteArray × Sl00Src)) =>
    callK (p_spec_l00Src_next v7) fun y10 =>
    grd (appOk (v8.length + 1) 1 = true) <|
    nx9 (y10.2, (v8 ++ ([(IntKind.u8.wrap y10.1)] : List Int)))) (k := fun ((v7, v8) : (Sl00Src × (List Int))) => some ((bytesOf (v8.map rU)), v7))
    (fun i (s : Sl00Src × List Int) => s.2.length = i ∧ SrcOk (b + n - i) s.1) (fun i hi s hs nx hnx => by
      obtain ⟨v7, v8⟩ := s
      obtain ⟨h1, h2⟩ := hs
      dsimp only at h1 h2 ⊢
      obtain ⟨v, s', e, _, o⟩ := next_ok (b := b + n - (i + 1)) (by omega) (h2.le (by omega))
      rw [e, callK_some, grd_pos (appOk_of _ _ (by omega))]
      exact hnx _ ⟨by simp; omega, o.le (by push_cast; omega)⟩) (fun s hs => by
      obtain ⟨v7, v8⟩ := s
      obtain ⟨h1, h2⟩ := hs
      dsimp only at h1 h2 ⊢
      refine ⟨_, rfl, ?_, h2.le (by omega)⟩
      rw [bytesOf_rU, size_ofL, List.length_map, h1]; omega) (s, []) ⟨rfl, h.le (by omega)⟩
  exact ⟨r.1, r.2, e, g1, g2⟩
theorem step02_ok (v : Int) : ∃ w, p_spec_l02Step v = some w := by unfold p_spec_l02Step; split <;> exact ⟨_, rfl⟩
theorem stream_ok (v : Int) (n : Nat) (hn : n ≤ 1000) : ∃ t, p_spec_l02Stream v (n : Int) = some t ∧ t.size = n := by
  unfold p_spec_l02Stream
  rw [grd_pos (by omega)]
  refine forI_ex (fun i (s : Int × List Int) => s.2.length = i) (fun i hi s hs nx hnx => ?_) (fun s hs => ?_) (v, []) rfl
  · obtain ⟨v16, v17⟩ := s
    dsimp only at hs ⊢
    rw [grd_pos (by omega)]
    refine forI_ex (fun _ _ => True) (fun j hj s2 _ nx2 hnx2 => ?_) (fun s2 _ => ?_) (v16, 0) trivial
    · obtain ⟨v25, v26⟩ := s2
      dsimp only
      obtain ⟨w, e⟩ := step02_ok v25
      rw [grd_pos (by unfold IntKind.wrap; simp [IntKind.signed, IntKind.bits]; omega), e, callK_some]
      exact hnx2 _ trivial
    · obtain ⟨v25, v26⟩ := s2
      dsimp only
      rw [grd_pos (appOk_of _ _ (by omega))]
      exact hnx _ (by simp [hs])
  · obtain ⟨v16, v17⟩ := s
    dsimp only at hs ⊢
    refine ⟨_, rfl, ?_⟩
    rw [bytesOf_rU, size_ofL, List.length_map, hs]; omega
theorem xor02_ok (a b : ByteArray) (h : a.size = b.size) (ha : a.size ≤ 1000) : ∃ t, p_spec_l02Xor a b = some t ∧ t.size = a.size := by
  unfold p_spec_l02Xor
  rw [grd_pos (by omega)]
  refine forI_ex (fun i (s : List Int) => s.length = i) (fun i hi s hs nx hnx => ?_) (fun s hs => ?_) [] rfl
  · rw [getB_lt (by rw [bl_len]; omega), getB_lt (by rw [bl_len]; omega), grd_pos (appOk_of _ _ (by omega))]
    exact hnx _ (by simp [hs])
  · refine ⟨_, rfl, ?_⟩
    rw [bytesOf_rU, size_ofL, List.length_map, hs]; omega
theorem scr_ok (p : Int) (a : ByteArray) (ha : a.size ≤ 256) (hp : 0 ≤ p ∧ p ≤ 65534) : ∃ t, p_spec_Scramble p a = some (t, 0) ∧ t.size = a.size := by
  unfold p_spec_Scramble
  obtain ⟨t, e, ht⟩ := stream_ok (IntKind.i64.wrap (p + 1)) a.size (by omega)
  obtain ⟨u, e2, hu⟩ := xor02_ok a t ht.symm (by omega)
  rw [if_pos ((inR_iff _ _ _).mpr hp), if_neg (by omega), e, callK_some, e2, callK_some]
  exact ⟨_, rfl, hu⟩
theorem pos_all : ∀ i : Fin 64, (p_spec_l03Position (i.val : Int)).isSome = true := by decide +kernel
theorem u64_nn (n : Int) : 0 ≤ IntKind.u64.wrap n := by unfold IntKind.wrap; simp [IntKind.signed, IntKind.bits]; omega
theorem pos_ok (i : Nat) (hi : i < 72) : ∃ y, p_spec_l03Position (i : Int) = some y := by
  by_cases h : i < 64
  · have := pos_all ⟨i, h⟩
    exact Option.isSome_iff_exists.mp this
  · unfold p_spec_l03Position
    rw [if_pos (by omega), grd_pos (u64_nn _)]
    exact ⟨_, rfl⟩
theorem bit03_ok (a : ByteArray) (ha : a.size = 8) (low : Int) (i : Nat) (hi : i < 72) : ∃ y, p_spec_l03Bit a low (i : Int) = some y := by
  unfold p_spec_l03Bit
  by_cases h : (i : Int) ≥ 64
  · rw [if_pos h, grd_pos (u64_nn _)]
    exact ⟨_, rfl⟩
  · have e : IntKind.i64.wrap (Int.tdiv (i : Int) 8) = ((i / 8 : Nat) : Int) := by
      rw [show Int.tdiv (i : Int) 8 = ((i / 8 : Nat) : Int) from by rw [Int.tdiv_eq_ediv_of_nonneg (by omega)]; omega]
      exact wrap_sm _ (by omega) (by omega)
    rw [if_neg h, e, getB_lt (by rw [bl_len]; omega), grd_pos (u64_nn _)]
    exact ⟨_, rfl⟩
theorem syn_ok (a : ByteArray) (ha : a.size = 8) (low : Int) : ∃ y, p_spec_l03Syndrome a low = some y := by
  unfold p_spec_l03Syndrome
  rw [grd_pos (by omega)]
  obtain ⟨r, e, _⟩ := forI_ex (n := (72 : Int)) (Q := fun (_ : Int × Int) => True)
    (f := fun (i9 : Nat) ((v10, v11) : (Int × Int)) (nx12 : (Int × Int) → Option (Int × Int)) =>
    callK (p_spec_l03Bit a low (i9 : Int)) fun y13 =>
    if y13 = 0 then
      nx12 (v10, v11)
    else
      if (i9 : Int) < 71 then
        callK (p_spec_l03Position (i9 : Int)) fun y16 =>
        nx12 ((xorK .i64 v10 y16), (xorK .i64 v11 1))
      else
        nx12 (v10, (xorK .i64 v11 1))) (k := fun ((v10, v11) : (Int × Int)) => some (v10, v11))
    (fun _ _ => True) (fun i hi s _ nx hnx => by
      obtain ⟨v10, v11⟩ := s
      dsimp only
      obtain ⟨y, e⟩ := bit03_ok a ha low i (by omega)
      obtain ⟨z, e2⟩ := pos_ok i (by omega)
      rw [e, callK_some, e2, callK_some]
      split
      · exact hnx _ trivial
      · split <;> exact hnx _ trivial) (fun s _ => ⟨_, rfl, trivial⟩) (0, 0) trivial
  exact ⟨r, e⟩
theorem chk_ok (a : ByteArray) (ha : a.size = 8) : ∃ y, p_spec_l03Check a = some y := by
  unfold p_spec_l03Check
  obtain ⟨y1, e1⟩ := syn_ok a ha 0
  obtain ⟨y2, e2⟩ := syn_ok a ha y1.1
  rw [e1, callK_some, e2, callK_some]
  exact ⟨_, rfl⟩
theorem ecc_ok (a : ByteArray) (ha : a.size = 80) : ∃ y, p_spec_EncodeEcc a = some y ∧ y.1.size ≤ 100 := by
  unfold p_spec_EncodeEcc p_spec_l03Words
  rw [if_pos (by rw [ha]; rfl), callK_some, if_pos (by rw [ha]; decide)]
  refine iterK_ex (fun d (s : Int × List Int) => ∃ n : Nat, s.1 = 8 * (n : Int) ∧ d = 10 - n ∧ n ≤ 10 ∧ s.2.length = n) (fun d s hs nx hnx => ?_) 10 _ (by unfold NN; omega) ⟨0, rfl, rfl, by omega, rfl⟩
  obtain ⟨v3, v4⟩ := s
  obtain ⟨n, h1, h2, h3, h4⟩ := hs
  dsimp only at h1 h4 ⊢
  subst h1
  by_cases hc : 8 * (n : Int) < (a.size : Int)
  · have w : IntKind.i64.wrap (8 * (n : Int) + 8) = 8 * (n : Int) + 8 := wrap_sm _ (by omega) (by omega)
    rw [if_pos hc, w, grd_pos (by omega)]
    obtain ⟨y, e⟩ := chk_ok (ByteArray.extract a (Int.toNat (8 * (n : Int))) (Int.toNat (8 * (n : Int) + 8))) (by rw [ByteArray.size_extract]; omega)
    rw [e, callK_some, grd_pos (appOk_of _ _ (by omega))]
    exact hnx (10 - (n + 1)) _ (by omega) ⟨n + 1, by dsimp only; push_cast; omega, rfl, by omega, by simp [h4]⟩
  · rw [if_neg hc]
    refine ⟨_, rfl, ?_⟩
    dsimp only
    rw [bytesOf_rU, size_ofL, List.length_map]; omega
theorem seal_ok (a b : ByteArray) (p : Int) (ha : a.size = 64) (hb : b.size = 16) (hp : 0 ≤ p ∧ p ≤ 65534) : ∃ y, p_spec_SealPage a b p = some y := by
  unfold p_spec_SealPage p_spec_l05Seal
  obtain ⟨t, e1, ht⟩ := scr_ok p (a ++ b) (by rw [ByteArray.size_append]; omega) hp
  rw [ByteArray.size_append] at ht
  obtain ⟨y, e2, hy⟩ := ecc_ok t (by omega)
  have h1 : (bytesOf ([[.lit (.int .u8 90)]] : List (List D))).size = 1 := by decide +kernel
  rw [if_neg (by omega), if_neg (by omega), if_pos ((inR_iff _ _ _).mpr hp), grd_pos (by omega), e1, callK_some]
  dsimp only
  rw [e2, callK_some, grd_pos (by omega), grd_pos (by rw [ByteArray.size_append, h1]; omega), callK_some]
  exact ⟨_, rfl⟩

/-! ### An array drawn -/
def S8 (L : List Block) : Prop := L.length = 8 ∧ ∀ b ∈ L, b.Pages.length = 8
theorem S8.cB {L : List Block} (h : ∀ b ∈ L, b.Pages.length = 8) : cB L = 8 * L.length := by
  induction L with
  | nil => rfl
  | cons b L ih =>
    rw [cB_cons, List.length_cons, ih fun x hx => h x (by simp [hx]), h b (by simp)]
    omega
theorem S8.fit {L : List Block} (h : S8 L) : Fit L := by
  have := S8.cB h.2
  have := h.1
  unfold Fit
  omega
theorem S8.set {L : List Block} (h : S8 L) (i : Nat) (b : Block) (hb : b.Pages.length = 8) : S8 (L.set i b) :=
  ⟨by rw [List.length_set]; exact h.1, fun x hx => (List.mem_or_eq_of_mem_set hx).elim (h.2 x) fun e => e ▸ hb⟩
theorem S8.setP {L : List Block} (h : S8 L) (j i : Nat) (hi : i < L.length) (e n : Int) (b : Bool) : S8 (L.set j ⟨e, n, b, L[i].Pages⟩) := h.set j _ (h.2 L[i] (List.getElem_mem hi))
theorem own06_ok (f : Flash) (h : S8 f.Blocks) : p_spec_l06Own f = some f.Blocks := by
  have hl := h.1
  unfold p_spec_l06Own
  rw [grd_pos (by omega)]
  refine forK_rule (fun i (v : List Block) => v = f.Blocks.take i) (fun i hi v hv nx hnx => ?_) (fun v hv => by rw [hv, List.take_length]) _ (by simp)
  have hp := h.2 _ (List.getElem_mem hi)
  have hv2 : v.length = i := by rw [hv, List.length_take]; omega
  rw [grd_pos (appOk_of _ _ (by omega)), grd_pos (appOk_of _ _ (by omega))]
  exact hnx _ (by rw [hv, List.take_succ_eq_append_getElem hi])
theorem prog_ok {L : List Block} (h : S8 L) {ops blk : Int} (ho : 0 ≤ ops ∧ ops ≤ 1000) (hb : 0 ≤ blk ∧ blk < 8) (nx : Int) (raw : ByteArray) :
    ∃ r, p_spec_ProgramPage 2 4 8 (-1) 0 false ops blk nx raw L = some r ∧ (r.2.2.2.2.2.2.2.1 = 0 → ∃ L', r = (2, 4, 8, -1, 0, false, ops + 1, 0, L') ∧ S8 L') := by
  unfold p_spec_ProgramPage
  obtain ⟨y, e, hy⟩ := pl_sVF ⟨⟨2, 4, 8⟩, L, -1, 0, false, ops⟩ h.fit
  rw [e, callK_some]
  by_cases h0 : y = true
  rotate_left
  · rw [if_neg h0]; exact ⟨_, rfl, fun h => by simp at h⟩
  obtain ⟨_, _, _, _, _, hL⟩ := hy.mp h0
  rw [if_pos h0]
  by_cases h1 : (ByteArray.size raw : Int) = 91
  rotate_left
  · rw [if_pos h1]; exact ⟨_, rfl, fun h => by simp at h⟩
  rw [if_neg (by simpa using h1), if_neg (by decide)]
  unfold p_spec_l06HasPage p_spec_l06HasBlock
  rw [callK_some]
  have hlen := h.1
  have hi : blk.toNat < L.length := by omega
  obtain ⟨x, hx⟩ : ∃ x, L[blk.toNat] = x := ⟨_, rfl⟩
  have hxm : x ∈ L := hx ▸ List.getElem_mem hi
  obtain ⟨_, ⟨n1, n2⟩, _, _⟩ := hL x hxm
  have hxp := h.2 x hxm
  dsimp only at n2
  have go : ∀ b : Bool, ∃ r, (callK (if b = true then some (inR nx 0 (IntKind.i64.wrap (8 - 1))) else some false) fun y6 =>
        if y6 = true then
          getK L blk fun x8 =>
          if x8.Bad = true then
            some (0, 0, 0, 0, 0, false, 0, 7, ([] : List Block))
          else
            if ¬ x8.Next = nx then
              some (0, 0, 0, 0, 0, false, 0, 5, ([] : List Block))
            else
              callK (p_spec_l06Own (⟨⟨2, 4, 8⟩, L, -1, 0, false, ops⟩ : Flash)) fun y11 =>
              callK (p_spec_l06Program blk raw 2 4 8 (-1) 0 false ops y11) fun y12 =>
              some ((2 : Int), (4 : Int), (8 : Int), y12.2.1, (0 : Int), y12.2.2.1, y12.2.2.2.1, y12.1, y12.2.2.2.2)
        else
          some (0, 0, 0, 0, 0, false, 0, 2, ([] : List Block))) = some r ∧ (r.2.2.2.2.2.2.2.1 = 0 → ∃ L', r = (2, 4, 8, -1, 0, false, ops + 1, 0, L') ∧ S8 L') := fun b => by
    cases b with
    | false => rw [if_neg (by decide), callK_some, if_neg (by decide)]; exact ⟨_, rfl, fun h => by simp at h⟩
    | true =>
      rw [if_pos rfl, callK_some]
      by_cases h2 : inR nx 0 (IntKind.i64.wrap (8 - 1)) = true
      rotate_left
      · rw [if_neg h2]; exact ⟨_, rfl, fun h => by simp at h⟩
      have h3 := (inR_iff _ _ _).mp h2
      rw [show IntKind.i64.wrap (8 - 1) = 7 from by decide] at h3
      rw [if_pos h2, getK_in hb.1 (by omega)]
      simp only [hx]
      by_cases h4 : x.Bad = true
      · rw [if_pos h4]; exact ⟨_, rfl, fun h => by simp at h⟩
      rw [if_neg h4]
      by_cases h5 : x.Next = nx
      rotate_left
      · rw [if_pos h5]; exact ⟨_, rfl, fun h => by simp at h⟩
      rw [if_neg (by simpa using h5), own06_ok _ h, callK_some]
      unfold p_spec_l06Program p_spec_l06Tick
      dsimp only
      rw [getK_in hb.1 (by omega)]
      simp only [hx]
      rw [if_neg (by decide), if_neg (by decide), callK_some, if_neg (by simp), getK_in (by omega) (by omega), getN_lt (by rw [List.length_set]; exact hi)]
      dsimp only
      rw [callK_some]
      rw [wrap_sm (ops + 1) (by omega) (by omega)]
      refine ⟨_, rfl, fun _ => ⟨_, rfl, ?_⟩⟩
      exact (h.set blk.toNat ⟨x.Erases, x.Next, x.Bad, x.Pages.set x.Next.toNat raw⟩ (by simpa using hxp)).set blk.toNat _ (by simpa using hxp)
  exact go _

theorem arm_ok {L : List Block} (h : S8 L) (D B P fu ke : Int) (off : Bool) (ops a b : Int) :
    ∃ r, p_spec_ArmFuse D B P fu ke off ops a b L = some r ∧ (r.2.2.2.2.2.2.2.1 = 0 → S8 r.2.2.2.2.2.2.2.2) := by
  unfold p_spec_ArmFuse
  obtain ⟨y, e, _⟩ := pl_sVF ⟨⟨D, B, P⟩, L, fu, ke, off, ops⟩ h.fit
  rw [e, callK_some]
  by_cases h0 : y = true
  rotate_left
  · rw [if_neg h0]; exact ⟨_, rfl, fun h => by simp at h⟩
  rw [if_pos h0]
  by_cases h1 : off = true
  · rw [if_pos h1]; exact ⟨_, rfl, fun h => by simp at h⟩
  rw [if_neg h1]
  by_cases h2 : inR a (-1) 1000000 = true
  rotate_left
  · rw [if_neg h2]; exact ⟨_, rfl, fun h => by simp at h⟩
  rw [if_pos h2]
  by_cases h3 : inR b 0 91 = true
  rotate_left
  · rw [if_neg h3]; exact ⟨_, rfl, fun h => by simp at h⟩
  rw [if_pos h3, own06_ok _ h, callK_some]
  exact ⟨_, rfl, fun _ => h⟩
abbrev FT := Int × Int × Int × Int × Int × Bool × Int × Sl00Src × List Block
noncomputable def fS5 (D B P fu ke : Int) (off : Bool) (ops : Int) (s : Sl00Src) (L : List Block) : Option FT :=
  callK (p_spec_l00Src_one 20 s) fun y =>
  if y.1 = true then
    callK (p_spec_l00Src_among' y.2 ([(-1), 9] : List Int)) fun y42 =>
    getK L 0 fun x43 =>
    some (D, B, P, fu, ke, off, ops, y42.2, (L.set (Int.toNat 0) (⟨x43.Erases, y42.1, x43.Bad, x43.Pages⟩ : Block)))
  else
    some (D, B, P, fu, ke, off, ops, y.2, L)
noncomputable def fS4 (D B P fu ke : Int) (off : Bool) (ops : Int) (s : Sl00Src) (L : List Block) : Option FT :=
  callK (p_spec_l00Src_one 20 s) fun y =>
  if y.1 = true then fS5 D B P fu ke true ops y.2 L else fS5 D B P fu ke off ops y.2 L
noncomputable def fS3 (D B P fu ke : Int) (off : Bool) (ops : Int) (s : Sl00Src) (L : List Block) : Option FT :=
  callK (p_spec_l00Src_one 2 s) fun y =>
  if y.1 = true then
    callK (p_spec_l00Src_pick 14 y.2) fun y34 =>
    callK (p_spec_l00Src_among' y34.2 ([0, 3, 10, 91] : List Int)) fun y35 =>
    callK (p_spec_ArmFuse D B P fu ke off ops y34.1 y35.1 L) fun y36 =>
    if y36.2.2.2.2.2.2.2.1 = 0 then fS4 y36.1 y36.2.1 y36.2.2.1 y36.2.2.2.1 y36.2.2.2.2.1 y36.2.2.2.2.2.1 y36.2.2.2.2.2.2.1 y35.2 y36.2.2.2.2.2.2.2.2
    else fS4 D B P fu ke off ops y35.2 L
  else fS4 D B P fu ke off ops y.2 L
noncomputable def fS2 (D B P fu ke : Int) (off : Bool) (ops : Int) (s : Sl00Src) (L : List Block) : Option FT :=
  callK (p_spec_l00Src_one 6 s) fun y =>
  if y.1 = true then
    callK (p_spec_l00Src_pick 8 y.2) fun y29 =>
    callK (p_spec_l00Src_among' y29.2 ([1000, 999, 998] : List Int)) fun y30 =>
    getK L y29.1 fun x31 =>
    fS3 D B P fu ke off ops y30.2 (L.set (Int.toNat y29.1) (⟨y30.1, x31.Next, x31.Bad, x31.Pages⟩ : Block))
  else fS3 D B P fu ke off ops y.2 L
noncomputable def fS1 (D B P fu ke : Int) (off : Bool) (ops : Int) (s : Sl00Src) (L : List Block) : Option FT :=
  callK (p_spec_l00Src_one 6 s) fun y =>
  if y.1 = true then
    callK (p_spec_l00Src_pick 8 y.2) fun y25 =>
    getK L y25.1 fun x26 =>
    fS2 D B P fu ke off ops y25.2 (L.set (Int.toNat y25.1) (⟨x26.Erases, x26.Next, true, x26.Pages⟩ : Block))
  else fS2 D B P fu ke off ops y.2 L
def QF (r : FT) : Prop := S8 r.2.2.2.2.2.2.2.2 ∧ SrcOk 2000000 r.2.2.2.2.2.2.2.1
theorem fS5_ok {L : List Block} (h : S8 L) (D B P fu ke : Int) (off : Bool) (ops : Int) {s : Sl00Src} (hs : SrcOk 2000010 s) : ∃ r, fS5 D B P fu ke off ops s L = some r ∧ QF r := by
  unfold fS5
  have hl := h.1
  obtain ⟨o, s1, e1, o1⟩ := one_ok (b := 2000004) 20 (by omega) (hs.le (by omega))
  obtain ⟨z, s2, e2, _, o2⟩ := amongO_ok (b := 2000000) (s := s1) ([(-1), 9] : List Int) (by simp) (by omega) (o1.le (by omega))
  rw [e1, callK_some]
  dsimp only
  cases o with
  | true =>
    rw [if_pos rfl, e2, callK_some, show (0 : Int) = ((0 : Nat) : Int) from rfl, getK_lt (by omega)]
    exact ⟨_, rfl, h.setP _ 0 (by omega) _ _ _, o2⟩
  | false =>
    rw [if_neg (by decide)]
    exact ⟨_, rfl, h, o1.le (by omega)⟩
theorem fS4_ok {L : List Block} (h : S8 L) (D B P fu ke : Int) (off : Bool) (ops : Int) {s : Sl00Src} (hs : SrcOk 2000020 s) : ∃ r, fS4 D B P fu ke off ops s L = some r ∧ QF r := by
  unfold fS4
  obtain ⟨o, s1, e1, o1⟩ := one_ok (b := 2000010) 20 (by omega) (hs.le (by omega))
  rw [e1, callK_some]
  dsimp only
  split
  · exact fS5_ok h _ _ _ _ _ _ _ o1
  · exact fS5_ok h _ _ _ _ _ _ _ o1
theorem fS3_ok {L : List Block} (h : S8 L) (D B P fu ke : Int) (off : Bool) (ops : Int) {s : Sl00Src} (hs : SrcOk 2000040 s) : ∃ r, fS3 D B P fu ke off ops s L = some r ∧ QF r := by
  unfold fS3
  obtain ⟨o, s1, e1, o1⟩ := one_ok (b := 2000030) 2 (by omega) (hs.le (by omega))
  obtain ⟨y34, s2, e2, _, o2⟩ := pick_ok (b := 2000025) 14 (by omega) (o1.le (by omega))
  obtain ⟨y35, s3, e3, _, o3⟩ := amongO_ok (b := 2000020) (s := s2) ([0, 3, 10, 91] : List Int) (by simp) (by omega) (o2.le (by omega))
  obtain ⟨r, e4, h4⟩ := arm_ok h D B P fu ke off ops y34 y35
  rw [e1, callK_some]
  dsimp only
  cases o with
  | true =>
    rw [if_pos rfl, e2, callK_some]
    dsimp only
    rw [e3, callK_some]
    dsimp only
    rw [e4, callK_some]
    by_cases c : r.2.2.2.2.2.2.2.1 = 0
    · rw [if_pos c]; exact fS4_ok (h4 c) _ _ _ _ _ _ _ o3
    · rw [if_neg c]; exact fS4_ok h _ _ _ _ _ _ _ o3
  | false =>
    rw [if_neg (by decide)]
    exact fS4_ok h _ _ _ _ _ _ _ (o1.le (by omega))
theorem fS2_ok {L : List Block} (h : S8 L) (D B P fu ke : Int) (off : Bool) (ops : Int) {s : Sl00Src} (hs : SrcOk 2000060 s) : ∃ r, fS2 D B P fu ke off ops s L = some r ∧ QF r := by
  unfold fS2
  have hl := h.1
  obtain ⟨o, s1, e1, o1⟩ := one_ok (b := 2000050) 6 (by omega) (hs.le (by omega))
  obtain ⟨y29, s2, e2, ⟨b1, b2, _⟩, o2⟩ := pick_ok (b := 2000045) 8 (by omega) (o1.le (by omega))
  have b2 := b2 (by omega)
  obtain ⟨y30, s3, e3, _, o3⟩ := amongO_ok (b := 2000040) (s := s2) ([1000, 999, 998] : List Int) (by simp) (by omega) (o2.le (by omega))
  rw [e1, callK_some]
  dsimp only
  cases o with
  | true =>
    rw [if_pos rfl, e2, callK_some]
    dsimp only
    rw [e3, callK_some]
    dsimp only
    rw [getK_in b1 (by omega)]
    exact fS3_ok (h.setP _ y29.toNat (by omega) _ _ _) _ _ _ _ _ _ _ o3
  | false =>
    rw [if_neg (by decide)]
    exact fS3_ok h _ _ _ _ _ _ _ (o1.le (by omega))
theorem fS1_ok {L : List Block} (h : S8 L) (D B P fu ke : Int) (off : Bool) (ops : Int) {s : Sl00Src} (hs : SrcOk 2000080 s) : ∃ r, fS1 D B P fu ke off ops s L = some r ∧ QF r := by
  unfold fS1
  have hl := h.1
  obtain ⟨o, s1, e1, o1⟩ := one_ok (b := 2000070) 6 (by omega) (hs.le (by omega))
  obtain ⟨y25, s2, e2, ⟨b1, b2, _⟩, o2⟩ := pick_ok (b := 2000060) 8 (by omega) (o1.le (by omega))
  have b2 := b2 (by omega)
  rw [e1, callK_some]
  dsimp only
  cases o with
  | true =>
    rw [if_pos rfl, e2, callK_some]
    dsimp only
    rw [getK_in b1 (by omega)]
    exact fS2_ok (h.setP _ y25.toNat (by omega) _ _ _) _ _ _ _ _ _ _ o2
  | false =>
    rw [if_neg (by decide)]
    exact fS2_ok h _ _ _ _ _ _ _ (o1.le (by omega))
theorem new_ok : ∃ L, p_spec_NewFlash ⟨2, 4, 8⟩ = some (2, 4, 8, -1, 0, false, 0, 0, L) ∧ S8 L := by
  unfold p_spec_NewFlash
  obtain ⟨z, e, hz⟩ := pl_sGeo ⟨2, 4, 8⟩
  have hz1 := hz.mpr ⟨show (2 : Int) ≤ 2 ∧ (2 : Int) ≤ 3 by omega, show (4 : Int) ≤ 4 ∧ (4 : Int) ≤ 12 by omega, .inl rfl⟩
  subst hz1
  have hn : p_spec_l06New ⟨2, 4, 8⟩ = some (-1, 0, false, 0, List.replicate 8 ⟨0, 0, false, List.replicate 8 ⟨#[]⟩⟩) := by
    unfold p_spec_l06New
    have w : IntKind.i64.wrap (2 * 4) = 8 := by decide
    rw [w, grd_pos (by omega)]
    refine forI_rule (fun i (v : List Block) => v = List.replicate i ⟨0, 0, false, List.replicate 8 ⟨#[]⟩⟩) (fun i hi v hv nx hnx => ?_) (fun v hv => by rw [hv]; rfl) _ rfl
    have hl : v.length = i := by rw [hv, List.length_replicate]
    rw [grd_pos (by decide), grd_pos (appOk_of _ _ (by omega))]
    exact hnx _ (by rw [hv]; exact List.replicate_succ'.symm)
  rw [e, callK_some, if_pos rfl, hn, callK_some]
  refine ⟨_, rfl, List.length_replicate, fun b hb => ?_⟩
  rw [List.eq_of_mem_replicate hb]
  exact List.length_replicate
theorem flash_ok {s : Sl00Src} (hs : SrcOk 3000000 s) : ∃ r, p_spec_l15Flash s = some r ∧ QF r := by
  unfold p_spec_l15Flash
  obtain ⟨L0, e0, h0⟩ := new_ok
  obtain ⟨y2, s1, e1, ⟨b1, b1', _⟩, o1⟩ := pick_ok (b := 2900000) 20 (by omega) (hs.le (by omega))
  have b1' := b1' (by omega)
  rw [e0, callK_some, e1, callK_some]
  dsimp only
  refine iterK_ex (fun (d : Nat) (s : Int × Sl00Src × Int × Int × Int × Int × Int × Bool × Int × List Block) => ∃ (ops : Int) (L : List Block) (sr : Sl00Src), s = ((d : Int), sr, 2, 4, 8, -1, 0, false, ops, L) ∧ S8 L ∧ (0 ≤ ops ∧ ops ≤ 20 - d) ∧ d ≤ 19 ∧ SrcOk (2100000 + d * 100) sr) (fun d s hs nx hnx => ?_) y2.toNat _ (by unfold NN; omega)
    ⟨0, L0, s1, by rw [show ((y2.toNat : Nat) : Int) = y2 by omega], h0, by omega, by omega, o1.le (by omega)⟩
  obtain ⟨ops, L, sr, rfl, hL, ho, hd9, hsr⟩ := hs
  dsimp only
  by_cases hd : (d : Int) > 0
  · rw [if_pos hd]
    obtain ⟨a, sa, ea, ⟨a1, a2, _⟩, oa⟩ := pick_ok (b := 2100000 + d * 100 - 4) 8 (by omega) (hsr.le (by omega))
    have a2 := a2 (by omega)
    obtain ⟨t1, st, et, ht1, ot⟩ := text15_ok (b := 2100000 + d * 100 - 70) (by omega) 64 (by omega) (s := sa) (oa.le (by omega))
    obtain ⟨t2, su, eu, ht2, ou⟩ := text15_ok (b := 2100000 + d * 100 - 90) (by omega) 16 (by omega) (s := st) (ot.le (by omega))
    obtain ⟨p, sp, ep, ⟨p1, p2, _⟩, op⟩ := pick_ok (b := 2100000 + d * 100 - 100) 100 (by omega) (ou.le (by omega))
    have p2 := p2 (by omega)
    obtain ⟨y, ey⟩ := seal_ok t1 t2 p ht1 ht2 (by omega)
    have hl := hL.1
    have et : p_spec_l15Text 64 sa = some (t1, st) := et
    have eu : p_spec_l15Text 16 st = some (t2, su) := eu
    rw [ea, callK_some]
    dsimp only
    rw [et, callK_some]
    dsimp only
    rw [eu, callK_some]
    dsimp only
    rw [ep, callK_some]
    dsimp only
    rw [ey, callK_some, getK_in a1 (by omega)]
    obtain ⟨r, er, hr⟩ := prog_ok hL (ops := ops) (blk := a) (by omega) (by omega) (L[a.toNat]'(by omega)).Next y.1
    have w : IntKind.i64.wrap ((d : Int) - 1) = ((d - 1 : Nat) : Int) := by rw [wrap_sm _ (by omega) (by omega)]; omega
    rw [er, callK_some, w]
    by_cases c : r.2.2.2.2.2.2.2.1 = 0
    · obtain ⟨L', rfl, hL'⟩ := hr c
      rw [if_pos c]
      exact hnx (d - 1) _ (by omega) ⟨ops + 1, L', sp, rfl, hL', by omega, by omega, op.le (by omega)⟩
    · rw [if_neg c]
      exact hnx (d - 1) _ (by omega) ⟨ops, L, sp, rfl, hL, by omega, by omega, op.le (by omega)⟩
  · rw [if_neg hd]
    exact fS1_ok hL 2 4 8 (-1) 0 false ops (hsr.le (by omega))

/-! ### Blocks marked, blocks found bad -/
theorem get_modB {α : Type} (l : List α) (i k : Nat) (f : α → α) : (l.modify i f)[k]? = if i = k then (l[k]?).map f else l[k]? := by
  simp only [List.getElem?_modify]
  by_cases c : i = k
  · simp only [c, if_true]
    cases l[k]? <;> rfl
  · simp [c]
def bB (x : Block) : Block := ⟨x.Erases, x.Next, true, x.Pages⟩
def mkL (L : List Block) (bad : List Int) : List Block := bad.foldl (fun L b => L.modify b.toNat bB) L
theorem mkL_len (bad : List Int) : ∀ L : List Block, (mkL L bad).length = L.length := by
  induction bad with
  | nil => intro L; rfl
  | cons b bad ih => intro L; exact (ih (L.modify b.toNat bB)).trans (List.length_modify ..)
theorem mkL_get (bad : List Int) (i : Nat) : ∀ L : List Block, (mkL L bad)[i]? = (L[i]?).map fun x => ⟨x.Erases, x.Next, x.Bad || bad.any (fun b => b.toNat == i), x.Pages⟩ := by
  induction bad with
  | nil =>
    intro L
    show L[i]? = _
    cases L[i]? with
    | none => rfl
    | some x => simp
  | cons b bad ih =>
    intro L
    show (mkL (L.modify b.toNat bB) bad)[i]? = _
    rw [ih, get_modB]
    by_cases c : b.toNat = i
    · rw [if_pos c]
      cases L[i]? with
      | none => rfl
      | some x => simp [bB, c]
    · rw [if_neg c]
      have c2 : (b.toNat == i) = false := by simpa using c
      cases L[i]? with
      | none => rfl
      | some x => simp [c2]
theorem mkL_snoc (L : List Block) (bad : List Int) (b : Int) : mkL L (bad ++ [b]) = (mkL L bad).modify b.toNat bB := by
  unfold mkL
  rw [List.foldl_append]
  rfl
def isBd (L : List Block) (i : Nat) : Bool := ((L[i]?).map (·.Bad)).getD false
def bdIx (L : List Block) (n : Nat) : List Int := ((List.range n).filter fun i => isBd L i).map fun (i : Nat) => (i : Int)
theorem bdIx_succ (L : List Block) (n : Nat) : bdIx L (n + 1) = bdIx L n ++ (if isBd L n = true then [(n : Int)] else []) := by
  unfold bdIx
  rw [List.range_succ, List.filter_append, List.map_append]
  congr 1
  by_cases c : isBd L n = true
  · rw [if_pos c, List.filter_cons_of_pos c]; rfl
  · rw [if_neg c, List.filter_cons_of_neg c]; rfl
theorem bdIx_len (L : List Block) (n : Nat) : (bdIx L n).length ≤ n := by
  induction n with
  | zero => exact Nat.le_refl _
  | succ n ih =>
    rw [bdIx_succ, List.length_append]
    split <;> simp <;> omega
theorem bdIx_pre (L : List Block) {k m : Nat} (h : k ≤ m) : bdIx L k <+: bdIx L m := by
  induction m with
  | zero =>
    have : k = 0 := by omega
    subst this
    exact List.prefix_rfl
  | succ m ih =>
    rcases Nat.lt_or_ge m k with h1 | h1
    · have : k = m + 1 := by omega
      subst this
      exact List.prefix_rfl
    · rw [bdIx_succ]
      exact (ih h1).trans (List.prefix_append _ _)
theorem bdIx_at (L : List Block) {i m : Nat} (h : i < m) (hb : isBd L i = true) : (bdIx L m)[(bdIx L i).length]? = some (i : Int) := by
  have hp := bdIx_pre L (show i + 1 ≤ m by omega)
  rw [bdIx_succ, if_pos hb] at hp
  obtain ⟨t, ht⟩ := hp
  rw [← ht, List.append_assoc, List.getElem?_append_right (Nat.le_refl _), Nat.sub_self]
  rfl
theorem bdIx_lt (L : List Block) {i m : Nat} (h : i < m) (hb : isBd L i = true) : (bdIx L i).length < (bdIx L m).length := (List.getElem?_eq_some_iff.mp (bdIx_at L h hb)).1

theorem inR_iffS {n lo hi : Int} : inR n lo hi = true ↔ lo ≤ n ∧ n ≤ hi := by
  unfold inR
  simp
theorem forK_allI {α R : Type} {l : List α} {f : Nat → α → Unit → (Unit → Option R) → Option R} {k : Unit → Option R} (p : Nat → Bool) (b : Option R) (h : ∀ (i : Nat) (hi : i < l.length) nx, f i l[i] () nx = if p i = true then nx () else b) :
    forK l f () k = if (List.range l.length).all p = true then k () else b := by
  refine forK_rule (fun i _ => ∀ j, j < i → p j = true) (fun i hi s hs nx hnx => ?_) (fun s hs => ?_) () (fun j hj => by omega)
  · rw [h i hi]
    cases hp : p i
    · have : (List.range l.length).all p = false := by
        rw [List.all_eq_false]
        exact ⟨i, List.mem_range.mpr hi, by simp [hp]⟩
      rw [this]; rfl
    · rw [if_pos rfl]
      refine hnx () fun j hj => ?_
      by_cases e : j = i
      · subst e; exact hp
      · exact hs j (by omega)
  · have : (List.range l.length).all p = true := List.all_eq_true.mpr fun i hi => hs i (List.mem_range.mp hi)
    rw [this]; rfl
theorem getK_N {α R : Type} {c : List α} {i : Nat} (z : α) (h : i < c.length) (k : α → Option R) : getK c (i : Int) k = k (c.getD i z) := by
  rw [getK_lt h]; congr 1; simp [List.getD, h]

/-! ### The first place of a number -/
def ixOf (l : List Int) (x : Int) : Int := match l.findIdx? fun y => y == x with
  | some j => (j : Int)
  | none => -1
theorem forGo_ix {R : Type} {f : Nat → Int → Unit → (Unit → Option R) → Option R} {x : Int} {g : Int → R} (hf : ∀ i y nx, f i y () nx = if y = x then some (g i) else nx ()) (k : Option R) : ∀ (l : List Int) (n : Nat), forGo f (fun _ => k) n l () =
    match l.findIdx? fun y => y == x with
    | some j => some (g ((n + j : Nat) : Int))
    | none => k
  | [], n => rfl
  | y :: l, n => by
    rw [forGo_cons, hf, List.findIdx?_cons]
    by_cases h : y = x
    · subst h; simp
    · rw [if_neg h, forGo_ix hf k l (n + 1), show (y == x) = false by simpa using h]
      simp only [Bool.false_eq_true, if_false]
      cases l.findIdx? fun y => y == x with
      | none => rfl
      | some j => simp only [Option.map_some]; congr 2; congr 1; omega
theorem forK_ix {f : Nat → Int → Unit → (Unit → Option Int) → Option Int} {x : Int} {l : List Int} (hf : ∀ i y nx, f i y () nx = if y = x then some (i : Int) else nx ()) : forK l f () (fun _ => some (-1)) = some (ixOf l x) := by
  unfold forK
  rw [forGo_ix (g := fun i => i) hf (some (-1)) l 0]
  unfold ixOf
  cases l.findIdx? fun y => y == x with
  | none => rfl
  | some j => simp
theorem ix_lo (l : List Int) (x : Int) : -1 ≤ ixOf l x := by
  unfold ixOf
  split <;> omega
theorem ix_mem {l : List Int} {x : Int} : 0 ≤ ixOf l x ↔ x ∈ l := by
  unfold ixOf
  split
  · rename_i j hj
    rw [List.findIdx?_eq_some_iff_getElem] at hj
    obtain ⟨h1, h2, _⟩ := hj
    have : l[j] = x := by simpa using h2
    exact ⟨fun _ => this ▸ List.getElem_mem h1, fun _ => by omega⟩
  · rename_i hj
    rw [List.findIdx?_eq_none_iff] at hj
    exact ⟨fun h => by omega, fun h => by have := hj x h; simp at this⟩
theorem ix_get {l : List Int} {x : Int} (h : 0 ≤ ixOf l x) : ∃ j : Nat, ixOf l x = j ∧ ∃ hj : j < l.length, l[j] = x ∧ ∀ k (hk : k < j), l[k]'(by omega) ≠ x := by
  unfold ixOf at h ⊢
  split at h
  · rename_i j hj
    rw [List.findIdx?_eq_some_iff_getElem] at hj
    obtain ⟨h1, h2, h3⟩ := hj
    refine ⟨j, rfl, h1, by simpa using h2, fun k hk => by simpa using h3 k hk⟩
  · omega

theorem adj_up : ∀ {l : List Int}, (∀ i, ∀ (h : i + 1 < l.length), l[i] < l[i + 1]) → l.Pairwise (· < ·)
  | [], _ => .nil
  | [_], _ => by simp
  | x :: y :: l, h => by
    have ih := adj_up (l := y :: l) fun i hi => by have := h (i + 1) (by simpa using hi); simpa using this
    refine List.pairwise_cons.mpr ⟨fun z hz => ?_, ih⟩
    have h0 : x < y := by have := h 0 (by simp); simpa using this
    rcases List.mem_cons.mp hz with rfl | hz
    · exact h0
    · have := (List.pairwise_cons.mp ih).1 z hz; omega

/-! ### Small words -/
theorem noB {P : Prop} (h : ¬ P) : ∃ r, some false = some r ∧ (r = true ↔ P) := ⟨false, rfl, by simp [h]⟩
theorem any_not {α : Type} (l : List α) (p : α → Bool) : (!l.any fun x => !p x) = l.all p := by
  induction l with
  | nil => rfl
  | cons x l ih => rw [List.any_cons, List.all_cons, ← ih]; cases p x <;> simp
theorem pl_index (l : List Int) (x : Int) (h : l.length ≤ 1000) : p_slices_Index l x = some (ixOf l x) := by
  unfold p_slices_Index
  rw [grd_pos (by omega)]
  exact forK_ix fun i y nx => by
    by_cases e : x = y
    · rw [if_pos e, if_pos e.symm]
    · rw [if_neg e, if_neg (Ne.symm e)]
theorem pl_contains (l : List Int) (x : Int) (h : l.length ≤ 1000) : p_slices_Contains l x = some (decide (x ∈ l)) := by
  unfold p_slices_Contains
  rw [pl_index _ _ h, callK_some]
  congr 1
  rw [decide_eq_decide]
  exact ix_mem
theorem pl_has (l : List Int) (x : Int) (h : l.length ≤ 1000) : p_spec_l00Has l x = some (decide (x ∈ l)) := by
  unfold p_spec_l00Has
  rw [grd_pos (by omega), forK_any2 (fun y => decide (y = x)) (some true) (fun i y nx => by by_cases e : y = x <;> simp [e])]
  have : (l.any fun y => decide (y = x)) = decide (x ∈ l) := by
    rw [Bool.eq_iff_iff, List.any_eq_true, decide_eq_true_iff]
    simp
  rw [this]
  cases decide (x ∈ l) <;> rfl
theorem pl_holder (t : BadTable) (x : Int) (h : t.Remap.length ≤ 1000) : p_spec_l07Holder t x = some (ixOf t.Remap x) := by
  unfold p_spec_l07Holder
  rw [grd_pos (by omega)]
  exact forK_ix fun i y nx => rfl
theorem pl_isBad (t : BadTable) (x : Int) (h : t.Bad.length ≤ 1000) : p_impl_BadTable_isBad t x = some (decide (x ∈ t.Bad)) := by
  unfold p_impl_BadTable_isBad
  rw [pl_contains _ _ h, callK_some]
theorem take_drop0 (l : List Int) (i : Nat) : (l.drop (Int.toNat 0)).take (Int.toNat (i : Int) - Int.toNat 0) = l.take i := by simp
/-- Rising numbers within bounds. -/
def Ris (l : List Int) (lo hi : Int) : Prop := l.Pairwise (· < ·) ∧ ∀ x ∈ l, lo ≤ x ∧ x ≤ hi
theorem ris_iff {l : List Int} {lo hi : Int} : Ris l lo hi ↔ ∀ i (hi' : i < l.length), (lo ≤ l[i] ∧ l[i] ≤ hi) ∧ ∀ h0 : 0 < i, l[i - 1]'(by omega) < l[i] := by
  constructor
  · rintro ⟨h1, h2⟩ i hi'
    exact ⟨h2 _ (List.getElem_mem hi'), fun h0 => List.pairwise_iff_getElem.mp h1 (i - 1) i (by omega) hi' (by omega)⟩
  · intro h
    refine ⟨adj_up fun i hi' => ?_, fun x hx => ?_⟩
    · have := (h (i + 1) hi').2 (by omega)
      simpa using this
    · obtain ⟨i, hi', rfl⟩ := List.mem_iff_getElem.mp hx
      exact (h i hi').1
theorem pl_rises (l : List Int) (lo hi : Int) (h : l.length ≤ 1000) : ∃ b, p_spec_l00Rises l lo hi = some b ∧ (b = true ↔ Ris l lo hi) := by
  unfold p_spec_l00Rises
  rw [grd_pos (by omega), ris_iff]
  refine forK_ex (fun i _ => ∀ j (hj : j < l.length), j < i → (lo ≤ l[j] ∧ l[j] ≤ hi) ∧ ∀ h0 : 0 < j, l[j - 1]'(by omega) < l[j]) (fun i hi' s hs nx hnx => ?_) (fun s hs => ⟨true, rfl, by simp; exact fun i hi' => hs i hi' hi'⟩) () (fun j hj h => by omega)
  have step : (lo ≤ l[i] ∧ l[i] ≤ hi) → (∀ h0 : 0 < i, l[i - 1]'(by omega) < l[i]) → ∃ r, nx () = some r ∧ _ := fun a b => hnx () fun j hj hji => by
    by_cases e : j = i
    · subst e; exact ⟨a, b⟩
    · exact hs j hj (by omega)
  by_cases hx : inR l[i] lo hi = true
  · rw [if_pos hx]
    by_cases h0 : (i : Int) > 0
    · have hw : IntKind.i64.wrap ((i : Int) - 1) = ((i - 1 : Nat) : Int) := by rw [wrap_sm _ (by omega) (by omega)]; omega
      rw [if_pos h0, hw, getK_lt (by omega)]
      by_cases hc : l[i - 1] ≥ l[i]
      · rw [if_pos hc]
        exact noB fun hh => by have := (hh i hi').2 (by omega); omega
      · rw [if_neg hc]
        exact step (inR_iffS.mp hx) fun _ => by omega
    · rw [if_neg h0]
      exact step (inR_iffS.mp hx) fun h => by omega
  · rw [if_neg hx]
    refine ⟨false, rfl, ?_⟩
    simp only [Bool.false_eq_true, false_iff]
    intro h
    exact hx (inR_iffS.mpr (h i hi').1)
theorem pl_incr (l : List Int) (h : l.length ≤ 1000) : ∃ b, p_impl_increasing l = some b ∧ (b = true ↔ l.Pairwise (· < ·)) := by
  unfold p_impl_increasing
  refine iterK_ex (fun (d : Nat) (v : Int) => 1 ≤ v ∧ v + d = l.length + 1 ∧ ∀ j (hj : j < l.length), (j : Int) < v → ∀ h0 : 0 < j, l[j - 1]'(by omega) < l[j]) (fun d v hv nx hnx => ?_) l.length 1 (by unfold NN; omega) ⟨by omega, by omega, fun j hj h1 h0 => by omega⟩
  obtain ⟨h1, h2, h3⟩ := hv
  by_cases hc : v < (l.length : Int)
  · have hw : IntKind.i64.wrap (v - 1) = v - 1 := wrap_sm _ (by omega) (by omega)
    have hw2 : IntKind.i64.wrap (v + 1) = v + 1 := wrap_sm _ (by omega) (by omega)
    rw [if_pos hc, getK_in (by omega) hc, hw, getK_in (by omega) (by omega), hw2]
    have e1 : (v - 1).toNat = v.toNat - 1 := by omega
    by_cases hle : l[v.toNat]'(by omega) ≤ l[(v - 1).toNat]'(by omega)
    · rw [if_pos hle]
      refine noB fun hp => ?_
      have := List.pairwise_iff_getElem.mp hp (v - 1).toNat v.toNat (by omega) (by omega) (by omega)
      omega
    · rw [if_neg hle]
      refine hnx (d - 1) _ (by omega) ⟨by omega, by omega, fun j hj hjv h0 => ?_⟩
      by_cases e : (j : Int) = v
      · have ej : j = v.toNat := by omega
        subst ej
        simp only [e1] at hle
        omega
      · exact h3 j hj (by omega) h0
  · rw [if_neg hc]
    have hp : l.Pairwise (· < ·) := adj_up fun i hi => by
      have := h3 (i + 1) hi (by omega) (by omega)
      simpa using this
    exact ⟨true, rfl, by simp [hp]⟩
theorem pl_within1 (x a b : Int) : p_impl_allWithin_c1 x a b = some (!inR x a b) := by unfold p_impl_allWithin_c1; simp
theorem pl_allW (l : List Int) (a b : Int) (h : l.length ≤ 1000000) : p_impl_allWithin l a b = some (l.all fun x => inR x a b) := by
  unfold p_impl_allWithin p_slices_ContainsFunc_impl_allWithin_c1 p_slices_IndexFunc_impl_allWithin_c1
  rw [grd_pos (by omega), forK_idx (p := fun x => !inR x a b) (fun x => pl_within1 x a b)]
  simp only [callK_some, idxP_any, any_not]
/-! ### The shape -/
structure Geo (t : BadTable) : Prop where
  d : 2 ≤ t.Geo.Dies ∧ t.Geo.Dies ≤ 3
  b : 4 ≤ t.Geo.Blocks ∧ t.Geo.Blocks ≤ 12
theorem pl_geo (g : Geometry) : ∃ b, p_spec_ValidGeometry g = some b ∧ p_impl_ValidGeometry g = some b ∧ (b = true → (2 ≤ g.Dies ∧ g.Dies ≤ 3) ∧ 4 ≤ g.Blocks ∧ g.Blocks ≤ 12) := by
  unfold p_spec_ValidGeometry p_impl_ValidGeometry
  by_cases h1 : inR g.Dies 2 3 = true
  · by_cases h2 : inR g.Blocks 4 12 = true
    · rw [if_pos h1, if_pos h2]
      by_cases h3 : g.Pages = 8
      · rw [if_pos h3]; exact ⟨_, rfl, rfl, fun _ => ⟨inR_iffS.mp h1, inR_iffS.mp h2⟩⟩
      · rw [if_neg h3]; exact ⟨_, rfl, rfl, fun _ => ⟨inR_iffS.mp h1, inR_iffS.mp h2⟩⟩
    · rw [if_pos h1, if_neg h2]; exact ⟨_, rfl, rfl, fun h => by simp at h⟩
  · rw [if_neg h1]; exact ⟨_, rfl, rfl, fun h => by simp at h⟩
noncomputable def geoB (g : Geometry) : Bool := (p_spec_ValidGeometry g).getD false
theorem geo_s (g : Geometry) : p_spec_ValidGeometry g = some (geoB g) := by
  obtain ⟨b, e, _, _⟩ := pl_geo g
  unfold geoB; rw [e]; rfl
theorem geo_i (g : Geometry) : p_impl_ValidGeometry g = some (geoB g) := by
  obtain ⟨b, e, e2, _⟩ := pl_geo g
  unfold geoB; rw [e, e2]; rfl
theorem geo_b {g : Geometry} (h : geoB g = true) : (2 ≤ g.Dies ∧ g.Dies ≤ 3) ∧ 4 ≤ g.Blocks ∧ g.Blocks ≤ 12 := by
  obtain ⟨b, e, _, h2⟩ := pl_geo g
  unfold geoB at h; rw [e] at h; exact h2 h
structure Sh (t : BadTable) : Prop where
  geo : geoB t.Geo = true
  sp : 1 ≤ t.Spare ∧ t.Spare ≤ 4
  lt : t.Spare < t.Geo.Blocks - 1
  bad : Ris t.Bad 0 (t.Geo.Dies * t.Geo.Blocks - 1)
theorem mul_le {a b : Int} (ha : 0 ≤ a ∧ a ≤ 3) (hb : 0 ≤ b ∧ b ≤ 12) : 0 ≤ a * b ∧ a * b ≤ 36 := by
  refine ⟨Int.mul_nonneg ha.1 hb.1, ?_⟩
  have := Int.mul_le_mul ha.2 hb.2 hb.1 (by omega : (0 : Int) ≤ 3)
  omega
theorem count_w {g : Geometry} (h : geoB g = true) : IntKind.i64.wrap (g.Dies * g.Blocks) = g.Dies * g.Blocks ∧ IntKind.i64.wrap (g.Dies * g.Blocks - 1) = g.Dies * g.Blocks - 1 := by
  obtain ⟨h1, h2⟩ := geo_b h
  have := mul_le (a := g.Dies) (b := g.Blocks) (by omega) (by omega)
  exact ⟨wrap_sm _ (by omega) (by omega), wrap_sm _ (by omega) (by omega)⟩
theorem pl_shape (t : BadTable) (h : t.Bad.length ≤ 1000) : ∃ b, p_spec_l07Shape t = some b ∧ (b = true ↔ Sh t) := by
  unfold p_spec_l07Shape p_spec_l07Count
  rw [geo_s, callK_some]
  by_cases h1 : geoB t.Geo = true
  rotate_left
  · rw [if_neg h1]; exact ⟨false, rfl, by simp only [Bool.false_eq_true, false_iff]; exact fun h => h1 h.geo⟩
  obtain ⟨_, g2⟩ := geo_b h1
  have w1 : IntKind.i64.wrap (t.Geo.Blocks - 1) = t.Geo.Blocks - 1 := wrap_sm _ (by omega) (by omega)
  obtain ⟨w2, w3⟩ := count_w h1
  rw [if_pos h1, w1]
  by_cases h2 : inR t.Spare 1 4 = true
  rotate_left
  · rw [if_neg h2]; exact ⟨false, rfl, by simp only [Bool.false_eq_true, false_iff]; exact fun h => h2 (inR_iffS.mpr h.sp)⟩
  rw [if_pos h2]
  by_cases h3 : t.Spare < t.Geo.Blocks - 1
  rotate_left
  · rw [if_neg h3]; exact ⟨false, rfl, by simp only [Bool.false_eq_true, false_iff]; exact fun h => h3 h.lt⟩
  rw [if_pos h3, callK_some, w2, w3]
  obtain ⟨b, e, hb⟩ := pl_rises t.Bad 0 (t.Geo.Dies * t.Geo.Blocks - 1) h
  rw [e, callK_some]
  exact ⟨b, rfl, hb.trans ⟨fun h => ⟨h1, inR_iffS.mp h2, h3, h⟩, fun h => h.bad⟩⟩
/-! ### Homes and spares -/
def hK (t : BadTable) (i : Int) : Int := IntKind.i64.wrap ((IntKind.i64.wrap ((IntKind.i64.wrap (Int.tdiv i (IntKind.i64.wrap (t.Geo.Blocks - t.Spare)))) * t.Geo.Blocks)) + (Int.tmod i (IntKind.i64.wrap (t.Geo.Blocks - t.Spare))))
theorem sh_pr {t : BadTable} (h : Sh t) : IntKind.i64.wrap (t.Geo.Blocks - t.Spare) = t.Geo.Blocks - t.Spare ∧ 2 ≤ t.Geo.Blocks - t.Spare ∧ t.Geo.Blocks - t.Spare ≤ 11 := by
  obtain ⟨_, g2⟩ := geo_b h.geo
  have := h.sp
  have := h.lt
  exact ⟨wrap_sm _ (by omega) (by omega), by omega, by omega⟩
theorem pl_home {t : BadTable} (h : Sh t) (i : Int) : p_spec_l07Home t i = some (hK t i) ∧ p_impl_BadTable_home t i = some (hK t i) := by
  obtain ⟨w, h1, _⟩ := sh_pr h
  have hne : IntKind.i64.wrap (t.Geo.Blocks - t.Spare) ≠ 0 := by rw [w]; omega
  constructor
  · unfold p_spec_l07Home hK
    rw [grd_pos hne, grd_pos hne]
  · unfold p_impl_BadTable_home p_impl_BadTable_primary hK
    rw [callK_some, grd_pos hne, callK_some, grd_pos hne]
theorem hK_eq {t : BadTable} (h : Sh t) {i : Int} (hi : 0 ≤ i ∧ i < t.Geo.Dies * (t.Geo.Blocks - t.Spare)) : ∃ d o, hK t i = d * t.Geo.Blocks + o ∧ (0 ≤ d ∧ d < t.Geo.Dies) ∧ (0 ≤ o ∧ o < t.Geo.Blocks - t.Spare) ∧ IntKind.i64.wrap (Int.tdiv (hK t i) t.Geo.Blocks) = d ∧ (hK t i) / t.Geo.Blocks = d := by
  obtain ⟨w, h1, h2⟩ := sh_pr h
  obtain ⟨g1, g2⟩ := geo_b h.geo
  have hs := h.sp
  refine ⟨i / (t.Geo.Blocks - t.Spare), i % (t.Geo.Blocks - t.Spare), ?_⟩
  have hd0 : 0 ≤ i / (t.Geo.Blocks - t.Spare) := Int.ediv_nonneg hi.1 (by omega)
  have hd1 : i / (t.Geo.Blocks - t.Spare) < t.Geo.Dies := Int.ediv_lt_of_lt_mul (by omega) hi.2
  have ho0 : 0 ≤ i % (t.Geo.Blocks - t.Spare) := Int.emod_nonneg _ (by omega)
  have ho1 : i % (t.Geo.Blocks - t.Spare) < t.Geo.Blocks - t.Spare := Int.emod_lt_of_pos _ (by omega)
  have e1 : Int.tdiv i (t.Geo.Blocks - t.Spare) = i / (t.Geo.Blocks - t.Spare) := Int.tdiv_eq_ediv_of_nonneg hi.1
  have e2 : Int.tmod i (t.Geo.Blocks - t.Spare) = i % (t.Geo.Blocks - t.Spare) := Int.tmod_eq_emod_of_nonneg hi.1
  have hm := mul_le (a := i / (t.Geo.Blocks - t.Spare)) (b := t.Geo.Blocks) (by omega) (by omega)
  have e3 : hK t i = i / (t.Geo.Blocks - t.Spare) * t.Geo.Blocks + i % (t.Geo.Blocks - t.Spare) := by
    unfold hK
    rw [w, e1, e2, wrap_sm (i / (t.Geo.Blocks - t.Spare)) (by omega) (by omega), wrap_sm (i / (t.Geo.Blocks - t.Spare) * t.Geo.Blocks) (by omega) (by omega), wrap_sm _ (by omega) (by omega)]
  have e4 : hK t i / t.Geo.Blocks = i / (t.Geo.Blocks - t.Spare) := by
    rw [e3, Int.add_comm, Int.add_mul_ediv_right _ _ (by omega), Int.ediv_eq_zero_of_lt ho0 (by omega), Int.zero_add]
  refine ⟨e3, ⟨hd0, hd1⟩, ⟨ho0, ho1⟩, ?_, e4⟩
  rw [Int.tdiv_eq_ediv_of_nonneg (by rw [e3]; omega), e4, wrap_sm _ (by omega) (by omega)]
def spL (t : BadTable) (d : Int) : List Int := (List.range t.Spare.toNat).map fun (k : Nat) => d * t.Geo.Blocks + (t.Geo.Blocks - t.Spare) + (k : Int)
theorem spL_mem {t : BadTable} (h : Sh t) {d x : Int} : x ∈ spL t d ↔ d * t.Geo.Blocks + (t.Geo.Blocks - t.Spare) ≤ x ∧ x < d * t.Geo.Blocks + t.Geo.Blocks := by
  have := h.sp
  unfold spL
  simp only [List.mem_map, List.mem_range]
  constructor
  · rintro ⟨k, hk, rfl⟩; omega
  · intro hx; exact ⟨(x - (d * t.Geo.Blocks + (t.Geo.Blocks - t.Spare))).toNat, by omega, by omega⟩
theorem spL_len (t : BadTable) (d : Int) (h : t.Spare ≤ 4) : (spL t d).length ≤ 4 := by unfold spL; simp; omega
theorem spL_nodup (t : BadTable) (d : Int) : (spL t d).Nodup := by
  unfold spL
  rw [List.nodup_iff_pairwise_ne, List.pairwise_map]
  exact (List.nodup_range).imp fun h e => h (by omega)
theorem pl_spares {t : BadTable} (h : Sh t) {d : Int} (hd : 0 ≤ d ∧ d ≤ 3) : p_impl_BadTable_spares t d = some (spL t d) := by
  obtain ⟨w, h1, h2⟩ := sh_pr h
  obtain ⟨g1, g2⟩ := geo_b h.geo
  have hs := h.sp
  have hm := mul_le (a := d) (b := t.Geo.Blocks) hd (by omega)
  unfold p_impl_BadTable_spares p_impl_BadTable_primary
  rw [callK_some, w]
  refine iterK_rule (fun (k : Nat) (s : Int × List Int) => s.1 = t.Geo.Blocks - k ∧ (k : Int) ≤ t.Spare ∧ s.2 = (List.range (t.Spare.toNat - k)).map fun (j : Nat) => d * t.Geo.Blocks + (t.Geo.Blocks - t.Spare) + (j : Int)) (fun k s hs' nx hnx => ?_) t.Spare.toNat _ (by unfold NN; omega) ⟨by dsimp only; omega, by omega, by simp⟩
  obtain ⟨v2, v3⟩ := s
  obtain ⟨q1, q2, q3⟩ := hs'
  dsimp only at q1 q3 ⊢
  subst q1
  by_cases hk : 0 < k
  · have hl : v3.length ≤ 4 := by rw [q3]; simp; omega
    rw [if_pos (by omega), grd_pos (appOk_of _ _ (by omega)), wrap_sm (d * t.Geo.Blocks) (by omega) (by omega), wrap_sm (d * t.Geo.Blocks + (t.Geo.Blocks - (k : Int))) (by omega) (by omega), wrap_sm (t.Geo.Blocks - (k : Int) + 1) (by omega) (by omega)]
    refine hnx (k - 1) _ (by omega) ⟨by dsimp only; omega, by omega, ?_⟩
    dsimp only
    have : t.Spare.toNat - (k - 1) = t.Spare.toNat - k + 1 := by omega
    rw [this, List.range_succ, List.map_append, q3]
    congr 1
    simp only [List.map_cons, List.map_nil]
    congr 1
    omega
  · have : k = 0 := by omega
    subst this
    rw [if_neg (by omega), q3]
    rfl
/-! ### Valid tables -/
def okX (t : BadTable) (i : Nat) (x : Int) : Bool := !decide (x ∈ t.Bad) && (!decide (x ∈ t.Remap.take i) && (decide (x = hK t i) || (decide (x ∈ spL t (hK t i / t.Geo.Blocks)) && decide (hK t i ∈ t.Bad))))
structure VB (t : BadTable) : Prop where
  sh : Sh t
  len : (t.Remap.length : Int) = t.Geo.Dies * (t.Geo.Blocks - t.Spare)
  ok : ∀ i, i < t.Remap.length → okX t i (t.Remap.getD i 0) = true
theorem pl_spareOf {t : BadTable} (h : Sh t) {d x : Int} (hd : 0 ≤ d ∧ d < t.Geo.Dies) : p_spec_l07SpareOf t d x = some (decide (x ∈ spL t d)) := by
  unfold p_spec_l07SpareOf
  obtain ⟨g1, g2⟩ := geo_b h.geo
  have hs := h.sp
  have hm := mul_le (a := d + 1) (b := t.Geo.Blocks) (by omega) (by omega)
  rw [wrap_sm (d + 1) (by omega) (by omega), wrap_sm ((d + 1) * t.Geo.Blocks) (by omega) (by omega), wrap_sm ((d + 1) * t.Geo.Blocks - t.Spare) (by omega) (by omega), wrap_sm ((d + 1) * t.Geo.Blocks - 1) (by omega) (by omega)]
  congr 1
  rw [Bool.eq_iff_iff, inR_iffS, decide_eq_true_iff, spL_mem h, Int.add_mul, Int.one_mul]
  omega
theorem log_w {t : BadTable} (h : Sh t) : IntKind.i64.wrap (t.Geo.Dies * IntKind.i64.wrap (t.Geo.Blocks - t.Spare)) = t.Geo.Dies * (t.Geo.Blocks - t.Spare) := by
  obtain ⟨w, h1, h2⟩ := sh_pr h
  obtain ⟨g1, g2⟩ := geo_b h.geo
  have hm := mul_le (a := t.Geo.Dies) (b := t.Geo.Blocks - t.Spare) (by omega) (by omega)
  rw [w, wrap_sm _ (by omega) (by omega)]
theorem pl_V (t : BadTable) (h1 : t.Bad.length ≤ 1000) (h2 : t.Remap.length ≤ 1000) : ∃ b, p_spec_ValidBadTable t = some b ∧ p_impl_ValidBadTable t = some b ∧ (b = true ↔ VB t) := by
  obtain ⟨b, e, hb⟩ := pl_shape t h1
  unfold p_spec_ValidBadTable p_impl_ValidBadTable p_impl_spareOk p_impl_blocksOk p_impl_Geometry_all p_impl_BadTable_logical p_impl_BadTable_primary
  rw [e, geo_i]
  simp only [callK_some]
  have no : ¬ VB t → ∃ b, some false = some b ∧ some false = some b ∧ (b = true ↔ VB t) := fun h => ⟨false, rfl, rfl, by simp [h]⟩
  by_cases hs : Sh t
  rotate_left
  · have hbf : ¬ b = true := fun h => hs (hb.mp h)
    rw [if_neg hbf]
    have hv : ¬ VB t := fun h => hs h.sh
    by_cases g1 : geoB t.Geo = true
    rotate_left
    · rw [if_neg g1]; exact no hv
    rw [if_pos g1]
    obtain ⟨_, g2⟩ := geo_b g1
    have w1 : IntKind.i64.wrap (t.Geo.Blocks - 1) = t.Geo.Blocks - 1 := wrap_sm _ (by omega) (by omega)
    obtain ⟨w2, w3⟩ := count_w g1
    rw [w1, w2, w3]
    by_cases g3 : inR t.Spare 1 4 = true
    rotate_left
    · rw [if_neg g3, callK_some]; exact no hv
    rw [if_pos g3, callK_some]
    by_cases g4 : t.Spare < t.Geo.Blocks - 1
    rotate_left
    · rw [if_neg (by simpa using g4)]; exact no hv
    rw [if_pos (by simpa using g4)]
    obtain ⟨c, ec, hc⟩ := pl_incr t.Bad h1
    rw [ec, callK_some]
    by_cases g5 : c = true
    rotate_left
    · rw [if_neg g5, callK_some]; exact no hv
    rw [if_pos g5, pl_allW _ _ _ (by omega), callK_some, callK_some, if_neg]
    · exact no hv
    · intro hall
      refine hs ⟨g1, inR_iffS.mp g3, g4, hc.mp g5, fun x hx => inR_iffS.mp ?_⟩
      exact List.all_eq_true.mp hall x hx
  rw [if_pos (hb.mpr hs), if_pos hs.geo]
  obtain ⟨g1, g2⟩ := geo_b hs.geo
  have w1 : IntKind.i64.wrap (t.Geo.Blocks - 1) = t.Geo.Blocks - 1 := wrap_sm _ (by omega) (by omega)
  obtain ⟨w2, w3⟩ := count_w hs.geo
  obtain ⟨c, ec, hc⟩ := pl_incr t.Bad h1
  have hlt := hs.lt
  rw [w1, w2, w3, if_pos (inR_iffS.mpr hs.sp), callK_some, if_pos (show decide (t.Spare < t.Geo.Blocks - 1) = true by simpa using hlt), ec, callK_some, if_pos (hc.mpr hs.bad.1), pl_allW _ _ _ (by omega), callK_some, callK_some, if_pos (List.all_eq_true.mpr fun x hx => inR_iffS.mpr (hs.bad.2 x hx)), log_w hs]
  by_cases hl : (t.Remap.length : Int) = t.Geo.Dies * (t.Geo.Blocks - t.Spare)
  rotate_left
  · rw [if_pos hl, if_pos hl]; exact no fun h => hl h.len
  rw [if_neg (by simpa using hl), if_neg (by simpa using hl), grd_pos (by omega), grd_pos (by omega)]
  have hB : t.Geo.Blocks ≠ 0 := by omega
  refine ⟨(List.range t.Remap.length).all fun i => okX t i (t.Remap.getD i 0), ?_, ?_, ?_⟩
  · rw [forK_allI (fun i => okX t i (t.Remap.getD i 0)) (some false) (fun i hi nx => ?_)]
    · cases (List.range t.Remap.length).all fun i => okX t i (t.Remap.getD i 0) <;> rfl
    · have eg : t.Remap.getD i 0 = t.Remap[i] := by simp [List.getD, hi]
      obtain ⟨d, o, q1, q2, q3, q4, q5⟩ := hK_eq hs (i := (i : Int)) (by omega)
      rw [(pl_home hs _).1, callK_some, pl_has _ _ h1, callK_some, take_drop0, grd_pos (by omega), pl_has _ _ (by rw [List.length_take]; omega), callK_some, grd_pos hB, q4, pl_spareOf hs q2, callK_some, pl_has _ _ h1, callK_some, eg]
      unfold okX
      rw [q5]
      by_cases a1 : t.Remap[i] ∈ t.Bad <;> by_cases a2 : t.Remap[i] ∈ t.Remap.take i <;> by_cases a3 : t.Remap[i] = hK t i <;> by_cases a4 : t.Remap[i] ∈ spL t d <;> by_cases a5 : hK t i ∈ t.Bad <;> simp [a1, a2, a3, a4, a5]
  · rw [forK_allI (fun i => okX t i (t.Remap.getD i 0)) (some false) (fun i hi nx => ?_)]
    · cases (List.range t.Remap.length).all fun i => okX t i (t.Remap.getD i 0) <;> rfl
    · have eg : t.Remap.getD i 0 = t.Remap[i] := by simp [List.getD, hi]
      obtain ⟨d, o, q1, q2, q3, q4, q5⟩ := hK_eq hs (i := (i : Int)) (by omega)
      unfold p_impl_BadTable_remapOk
      rw [(pl_home hs _).2, callK_some, pl_isBad _ _ h1, pl_isBad _ _ h1, take_drop0, grd_pos hB, grd_pos (by omega), pl_contains (t.Remap.take i) _ (by rw [List.length_take]; omega), callK_some, callK_some, callK_some, q4, pl_spares hs (by omega), callK_some, pl_contains _ _ (by have := spL_len t d hs.sp.2; omega), callK_some, eg]
      unfold okX
      rw [q5]
      by_cases a1 : t.Remap[i] ∈ t.Bad <;> by_cases a2 : t.Remap[i] ∈ t.Remap.take i <;> by_cases a3 : t.Remap[i] = hK t i <;> by_cases a4 : t.Remap[i] ∈ spL t d <;> by_cases a5 : hK t i ∈ t.Bad <;> simp [a1, a2, a3, a4, a5, callK_some]
  · rw [List.all_eq_true]
    exact ⟨fun h => ⟨hs, hl, fun i hi => h i (List.mem_range.mpr hi)⟩, fun h i hi => h.ok i (List.mem_range.mp hi)⟩
/-! ### Spares at hand -/
def avL (t : BadTable) (d : Int) : List Int := (spL t d).filter fun x => !(decide (x ∈ t.Bad) || decide (x ∈ t.Remap))
theorem pl_avail_s {t : BadTable} (h : Sh t) (bad remap : List Int) (h1 : bad.length ≤ 1000) (h2 : remap.length ≤ 1000) {d : Int} (hd : 0 ≤ d ∧ d < t.Geo.Dies) : p_spec_l07Available t.Geo.Dies t.Geo.Blocks t.Geo.Pages t.Spare d bad remap = some ((spL t d).filter fun x => !(decide (x ∈ bad) || decide (x ∈ remap))) := by
  obtain ⟨g1, g2⟩ := geo_b h.geo
  have hs := h.sp
  have hm := mul_le (a := d + 1) (b := t.Geo.Blocks) (by omega) (by omega)
  unfold p_spec_l07Available
  rw [wrap_sm (d + 1) (by omega) (by omega), wrap_sm ((d + 1) * t.Geo.Blocks) (by omega) (by omega), wrap_sm ((d + 1) * t.Geo.Blocks - t.Spare) (by omega) (by omega)]
  have hsp : spL t d = (List.range t.Spare.toNat).map fun (k : Nat) => (d + 1) * t.Geo.Blocks - t.Spare + (k : Int) := by
    unfold spL
    refine List.map_congr_left fun k _ => ?_
    rw [Int.add_mul]; omega
  rw [hsp]
  refine iterK_rule (fun (k : Nat) (s : Int × List Int) => s.1 = (d + 1) * t.Geo.Blocks - k ∧ (k : Int) ≤ t.Spare ∧ s.2 = ((List.range (t.Spare.toNat - k)).map fun (j : Nat) => (d + 1) * t.Geo.Blocks - t.Spare + (j : Int)).filter fun x => !(decide (x ∈ bad) || decide (x ∈ remap))) (fun k s hs' nx hnx => ?_) t.Spare.toNat _ (by unfold NN; omega) ⟨by dsimp only; omega, by omega, by simp⟩
  obtain ⟨v2, v3⟩ := s
  obtain ⟨q1, q2, q3⟩ := hs'
  dsimp only at q1 q3 ⊢
  subst q1
  by_cases hk : 0 < k
  · have hl : v3.length ≤ 4 := by
      rw [q3]
      refine Nat.le_trans (List.length_filter_le _ _) ?_
      simp; omega
    have e1 : t.Spare.toNat - (k - 1) = t.Spare.toNat - k + 1 := by omega
    have e2 : (d + 1) * t.Geo.Blocks - t.Spare + ((t.Spare.toNat - k : Nat) : Int) = (d + 1) * t.Geo.Blocks - (k : Int) := by omega
    have hw : IntKind.i64.wrap ((d + 1) * t.Geo.Blocks - (k : Int) + 1) = (d + 1) * t.Geo.Blocks - ((k - 1 : Nat) : Int) := by rw [wrap_sm _ (by omega) (by omega)]; omega
    have step : ∀ v, v = ((List.range (t.Spare.toNat - k)).map fun (j : Nat) => (d + 1) * t.Geo.Blocks - t.Spare + (j : Int)).filter (fun x => !(decide (x ∈ bad) || decide (x ∈ remap))) ++ (if decide ((d + 1) * t.Geo.Blocks - (k : Int) ∈ bad) || decide ((d + 1) * t.Geo.Blocks - (k : Int) ∈ remap) then [] else [(d + 1) * t.Geo.Blocks - (k : Int)]) → nx ((d + 1) * t.Geo.Blocks - ((k - 1 : Nat) : Int), v) = _ := fun v hv => hnx (k - 1) (_, v) (by omega) ⟨rfl, by omega, by
      dsimp only
      rw [e1, List.range_succ, List.map_append, List.filter_append, hv]
      congr 1
      simp only [List.map_cons, List.map_nil, e2, List.filter_cons, List.filter_nil]
      cases decide ((d + 1) * t.Geo.Blocks - (k : Int) ∈ bad) <;> cases decide ((d + 1) * t.Geo.Blocks - (k : Int) ∈ remap) <;> rfl⟩
    rw [if_pos (by omega), pl_has _ _ h1, callK_some, pl_has _ _ h2, callK_some, hw, grd_pos (appOk_of _ _ (by omega))]
    rw [← q3] at step
    by_cases a1 : (d + 1) * t.Geo.Blocks - (k : Int) ∈ bad
    · rw [if_pos (by simpa using a1)]
      exact step _ (by simp [a1])
    · rw [if_neg (by simpa using a1)]
      by_cases a2 : (d + 1) * t.Geo.Blocks - (k : Int) ∈ remap
      · rw [if_pos (by simpa using a2)]
        exact step _ (by simp [a2])
      · rw [if_neg (by simpa using a2)]
        exact step _ (by simp [a1, a2])
  · have : k = 0 := by omega
    subst this
    rw [if_neg (by omega), q3]
    rfl
/-! ### A number put to its place -/
def ins (b : Int) : List Int → List Int
  | [] => [b]
  | x :: l => if x < b then x :: ins b l else b :: x :: l
theorem ins_split {b : Int} : ∀ (u v : List Int), (∀ x ∈ u, x < b) → (∀ x ∈ v, ¬ x < b) → ins b (u ++ v) = u ++ b :: v
  | [], [], _, _ => rfl
  | [], x :: v, _, h => by show ins b (x :: v) = _; unfold ins; rw [if_neg (h x (by simp))]; rfl
  | x :: u, v, h, h2 => by
    show ins b (x :: (u ++ v)) = _
    unfold ins
    rw [if_pos (h x (by simp)), ins_split u v (fun y hy => h y (by simp [hy])) h2]; rfl
theorem ins_snoc {b x : Int} : ∀ (u : List Int), (∃ y ∈ u, ¬ y < b) → ins b (u ++ [x]) = ins b u ++ [x]
  | [], h => by obtain ⟨y, h, _⟩ := h; simp at h
  | z :: u, h => by
    show ins b (z :: (u ++ [x])) = ins b (z :: u) ++ [x]
    unfold ins
    by_cases hz : z < b
    · rw [if_pos hz, if_pos hz, ins_snoc u ?_]; rfl
      obtain ⟨y, h1, h2⟩ := h
      rcases List.mem_cons.mp h1 with rfl | h1
      · exact absurd hz h2
      · exact ⟨y, h1, h2⟩
    · rw [if_neg hz, if_neg hz]; rfl
theorem mem_ins {b x : Int} : ∀ {l : List Int}, x ∈ ins b l ↔ x = b ∨ x ∈ l
  | [] => by simp [ins]
  | y :: l => by
    unfold ins
    split
    · rw [List.mem_cons, mem_ins (l := l), List.mem_cons]
      constructor
      · rintro (h | h | h) <;> simp [h]
      · rintro (h | h | h) <;> simp [h]
    · simp
theorem ins_len (b : Int) : ∀ (l : List Int), (ins b l).length = l.length + 1
  | [] => rfl
  | y :: l => by
    unfold ins
    split
    · rw [List.length_cons, ins_len b l, List.length_cons]
    · rfl
theorem ins_up {b : Int} : ∀ {l : List Int}, l.Pairwise (· < ·) → b ∉ l → (ins b l).Pairwise (· < ·)
  | [], _, _ => by simp [ins]
  | y :: l, h, hb => by
    rw [List.pairwise_cons] at h
    simp only [List.mem_cons, not_or] at hb
    unfold ins
    split
    · rename_i hy
      refine List.pairwise_cons.mpr ⟨fun x hx => ?_, ins_up h.2 hb.2⟩
      rcases mem_ins.mp hx with rfl | hx
      · exact hy
      · exact h.1 x hx
    · rename_i hy
      have hby : b < y := by have := hb.1; omega
      refine List.pairwise_cons.mpr ⟨fun x hx => ?_, List.pairwise_cons.mpr h⟩
      rcases List.mem_cons.mp hx with rfl | hx
      · exact hby
      · have := h.1 x hx; omega
theorem pl_put {l : List Int} {b : Int} (h : l.length ≤ 1000) (hb : b ∉ l) : p_spec_l00Put l b = some (ins b l) := by
  unfold p_spec_l00Put
  rw [grd_pos (by omega)]
  refine forK_rule (fun i (s : Bool × List Int) => (s.1 = false ∧ s.2 = l.take i ∧ ∀ x ∈ l.take i, x < b) ∨ (s.1 = true ∧ s.2 = ins b (l.take i) ∧ ∃ y ∈ l.take i, ¬ y < b)) (fun i hi s hs nx hnx => ?_) (fun s hs => ?_) _ (.inl ⟨rfl, by simp, by simp⟩)
  · obtain ⟨v11, v12⟩ := s
    have ht : l.take (i + 1) = l.take i ++ [l[i]] := List.take_succ_eq_append_getElem hi
    have hlt : (l.take i).length = i := by rw [List.length_take]; omega
    rcases hs with ⟨e1, e2, h3⟩ | ⟨e1, e2, h3⟩
    · dsimp only at e1 e2 ⊢
      subst e1 e2
      rw [if_neg (by decide)]
      by_cases hge : l[i] ≥ b
      · have hgt : l[i] > b := by
          have : l[i] ≠ b := fun e => hb (e ▸ List.getElem_mem hi)
          omega
        rw [if_pos hge, if_pos hgt, grd_pos (appOk_of _ _ (by omega)), grd_pos (appOk_of _ _ (by simp; omega))]
        refine hnx _ (.inr ⟨rfl, ?_, l[i], by rw [ht]; exact List.mem_append.mpr (.inr (List.mem_singleton.mpr rfl)), by omega⟩)
        dsimp only
        rw [ht, ins_split _ _ h3 (by simp; omega)]
        simp
      · rw [if_neg hge, grd_pos (appOk_of _ _ (by omega))]
        refine hnx _ (.inl ⟨rfl, ht.symm, fun x hx => ?_⟩)
        rw [ht] at hx
        rcases List.mem_append.mp hx with hx | hx
        · exact h3 x hx
        · rw [List.mem_singleton] at hx; omega
    · dsimp only at e1 e2 ⊢
      subst e1 e2
      rw [if_pos rfl, grd_pos (appOk_of _ _ (by rw [ins_len]; omega))]
      refine hnx _ (.inr ⟨rfl, ?_, ?_⟩)
      · dsimp only
        rw [ht, ins_snoc _ h3]
      · obtain ⟨y, h4, h5⟩ := h3
        exact ⟨y, by rw [ht]; exact List.mem_append.mpr (.inl h4), h5⟩
  · obtain ⟨v11, v12⟩ := s
    rw [List.take_length] at hs
    rcases hs with ⟨e1, e2, h3⟩ | ⟨e1, e2, h3⟩
    · dsimp only at e1 e2 ⊢
      subst e1
      rw [e2]
      rw [if_neg (by decide), grd_pos (appOk_of _ _ (by omega))]
      have := ins_split l [] h3 (by simp)
      rw [List.append_nil] at this
      rw [this]
    · dsimp only at e1 e2 ⊢
      subst e1
      rw [e2]
      rw [if_pos rfl]
def nxt (t : BadTable) (b : Int) : BadTable := ⟨t.Geo, t.Spare, ins b t.Bad, if 0 ≤ ixOf t.Remap b then t.Remap.set (ixOf t.Remap b).toNat ((avL t (b / t.Geo.Blocks)).headD 0) else t.Remap⟩
def full (t : BadTable) (b : Int) : Prop := 0 ≤ ixOf t.Remap b ∧ avL t (b / t.Geo.Blocks) = []
theorem die_ok {t : BadTable} (h : Sh t) {b : Int} (hb : 0 ≤ b ∧ b ≤ t.Geo.Dies * t.Geo.Blocks - 1) : (0 ≤ b / t.Geo.Blocks ∧ b / t.Geo.Blocks < t.Geo.Dies) ∧ IntKind.i64.wrap (Int.tdiv b t.Geo.Blocks) = b / t.Geo.Blocks := by
  obtain ⟨g1, g2⟩ := geo_b h.geo
  have h1 : 0 ≤ b / t.Geo.Blocks := Int.ediv_nonneg hb.1 (by omega)
  have h2 : b / t.Geo.Blocks < t.Geo.Dies := Int.ediv_lt_of_lt_mul (by omega) (by omega)
  exact ⟨⟨h1, h2⟩, by rw [Int.tdiv_eq_ediv_of_nonneg hb.1, wrap_sm _ (by omega) (by omega)]⟩
theorem av_mem {t : BadTable} {d x : Int} : x ∈ avL t d ↔ x ∈ spL t d ∧ x ∉ t.Bad ∧ x ∉ t.Remap := by
  unfold avL
  rw [List.mem_filter]
  simp
theorem head_mem {l : List Int} (h : l ≠ []) : l.headD 0 ∈ l := by cases l with | nil => exact absurd rfl h | cons x l => simp
theorem head0 : ∀ (l : List Int) (h : (0 : Int).toNat < l.length), l[(0 : Int).toNat] = l.headD 0
  | [], h => by simp at h
  | x :: l, _ => rfl
abbrev zT : BadTable := ⟨⟨0, 0, 0⟩, 0, [], []⟩
def flatT (t : BadTable) (c : Int) : Int × Int × Int × Int × Int × List Int × List Int := (t.Geo.Dies, t.Geo.Blocks, t.Geo.Pages, t.Spare, c, t.Bad, t.Remap)
theorem retS (t : BadTable) (h1 : t.Bad.length ≤ 900) (h2 : t.Remap.length ≤ 900) (b : Int) : ∃ r, p_spec_RetireBlock t.Geo.Dies t.Geo.Blocks t.Geo.Pages t.Spare b t.Bad t.Remap = some r ∧ (r.2.2.2.2.1 = 0 → ∃ t', r = flatT t' 0 ∧ t'.Bad.length = t.Bad.length + 1 ∧ t'.Remap.length = t.Remap.length) := by
  obtain ⟨v, ev, _, hv⟩ := pl_V t (by omega) (by omega)
  unfold p_spec_RetireBlock p_spec_l07Count
  rw [show (⟨⟨t.Geo.Dies, t.Geo.Blocks, t.Geo.Pages⟩, t.Spare, t.Bad, t.Remap⟩ : BadTable) = t from rfl, ev, callK_some]
  by_cases hV : v = true
  rotate_left
  · rw [if_neg hV]; exact ⟨_, rfl, fun h => by simp at h⟩
  have hs := (hv.mp hV).sh
  obtain ⟨w2, w3⟩ := count_w hs.geo
  obtain ⟨g1, g2⟩ := geo_b hs.geo
  rw [if_pos hV, callK_some]
  dsimp only
  rw [w2, w3]
  by_cases hb : inR b 0 (t.Geo.Dies * t.Geo.Blocks - 1) = true
  rotate_left
  · rw [if_neg hb]; exact ⟨_, rfl, fun h => by simp at h⟩
  have hb' := inR_iffS.mp hb
  rw [if_pos hb, pl_has _ _ (by omega), callK_some]
  by_cases hn : b ∈ t.Bad
  · rw [if_pos (by simpa using hn)]; exact ⟨_, rfl, fun h => by simp at h⟩
  obtain ⟨d1, d2⟩ := die_ok hs hb'
  unfold p_spec_l07Own p_spec_l00Own
  rw [if_neg (by simpa using hn), grd_pos (appOk_of _ _ (by omega)), callK_some, grd_pos (appOk_of _ _ (by omega)), callK_some, callK_some, pl_put (by omega) hn, callK_some, pl_holder _ _ (by omega), callK_some]
  by_cases hx : ixOf t.Remap b < 0
  · rw [if_pos hx]
    exact ⟨_, rfl, fun _ => ⟨⟨t.Geo, t.Spare, ins b t.Bad, t.Remap⟩, rfl, ins_len _ _, rfl⟩⟩
  · rw [if_neg hx, grd_pos (by omega), d2, pl_avail_s hs _ _ (by rw [ins_len]; omega) (by omega) d1, callK_some]
    generalize ((spL t (b / t.Geo.Blocks)).filter fun x => !(decide (x ∈ ins b t.Bad) || decide (x ∈ t.Remap))) = Y
    by_cases hf : (Y.length : Int) = 0
    · rw [if_pos hf]; exact ⟨_, rfl, fun h => by simp at h⟩
    · obtain ⟨j, ej, hj, _⟩ := ix_get (l := t.Remap) (x := b) (by omega)
      rw [if_neg hf, getK_in (by omega) (by omega), getK_in (by omega) (by omega)]
      exact ⟨_, rfl, fun _ => ⟨⟨t.Geo, t.Spare, ins b t.Bad, t.Remap.set (ixOf t.Remap b).toNat (Y[(0 : Int).toNat]'(by simp; omega))⟩, rfl, ins_len _ _, by simp⟩⟩
theorem ex_flat {x : Option (Int × Int × Int × Int × Int × List Int × List Int)} (h : ∃ r, x = some r ∧ ∃ t c, r = flatT t c ∧ t.Bad.length ≤ 100 ∧ t.Remap.length ≤ 100) : ∃ t c, x = some (flatT t c) ∧ t.Bad.length ≤ 100 ∧ t.Remap.length ≤ 100 := by
  obtain ⟨r, e, t, c, rfl, h1, h2⟩ := h
  exact ⟨t, c, e, h1, h2⟩
theorem newT_ok {g : Geometry} {sp : Int} {l : List Int} (hl : l.length ≤ 100) : ∃ t c, p_spec_NewBadTable g sp l = some (flatT t c) ∧ t.Bad.length ≤ 100 ∧ t.Remap.length ≤ 100 := by
  unfold p_spec_NewBadTable p_spec_l00Own
  rw [geo_s, callK_some]
  by_cases hg : geoB g = true
  rotate_left
  · rw [if_neg hg]; exact ⟨zT, 1, rfl, by simp, by simp⟩
  rw [if_pos hg, grd_pos (appOk_of _ _ (by omega)), callK_some]
  obtain ⟨b, e, hb⟩ := pl_shape ⟨g, sp, l, []⟩ (by dsimp only; omega)
  rw [e, callK_some]
  by_cases hbt : b = true
  rotate_left
  · rw [if_neg hbt]; exact ⟨zT, 2, rfl, by simp, by simp⟩
  have hs := hb.mp hbt
  have hs' : ∀ v, Sh ⟨g, sp, l, v⟩ := fun v => ⟨hs.geo, hs.sp, hs.lt, hs.bad⟩
  obtain ⟨g1, g2⟩ := geo_b hg
  have hsp := hs.sp
  have hlt := hs.lt
  dsimp only at hsp hlt
  have lw := log_w hs
  dsimp only at lw
  have hm := mul_le (a := g.Dies) (b := g.Blocks - sp) (by omega) (by omega)
  rw [if_pos hbt, lw, grd_pos (by omega)]
  refine ex_flat (forI_ex (fun i (v : List Int) => v.length ≤ i) (fun i hi v hv nx hnx => by
    obtain ⟨d, o, q1, q2, q3, q4, q5⟩ := hK_eq (hs' v) (i := (i : Int)) ⟨by omega, hi⟩
    dsimp only at q2 q4
    rw [(pl_home (hs' v) _).1, callK_some, pl_has _ _ (by omega), callK_some]
    by_cases hc : hK ⟨g, sp, l, v⟩ (i : Int) ∈ l
    · have ea := pl_avail_s (hs' v) l v (by omega) (by omega) (d := d) q2
      dsimp only at ea
      rw [if_pos (by simpa using hc), grd_pos (by omega), q4, ea, callK_some]
      by_cases h0 : ((((spL ⟨g, sp, l, v⟩ d).filter fun x => !(decide (x ∈ l) || decide (x ∈ v))).length : Nat) : Int) = 0
      · rw [if_pos h0]; exact ⟨_, rfl, zT, 4, rfl, by simp, by simp⟩
      · rw [if_neg h0, getK_in (by omega) (by omega), grd_pos (appOk_of _ _ (by omega))]
        exact hnx _ (by simp; omega)
    · rw [if_neg (by simpa using hc), grd_pos (appOk_of _ _ (by omega))]
      exact hnx _ (by simp; omega)) (fun v hv => ⟨_, rfl, ⟨g, sp, l, v⟩, 0, rfl, hl, by dsimp only; omega⟩) [] (by simp))
theorem geo_ok {s : Sl00Src} (h : SrcOk 1000000 s) : ∃ g s', p_spec_l07Geo s = some (g, s') ∧ (2 ≤ g.Dies ∧ g.Dies ≤ 3) ∧ (4 ≤ g.Blocks ∧ g.Blocks ≤ 7) ∧ SrcOk 900000 s' := by
  unfold p_spec_l07Geo
  obtain ⟨y1, s1, e1, ⟨b1, c1, _⟩, o1⟩ := pick_ok (b := 990000) (s := s) 2 (by omega) (h.le (by omega))
  obtain ⟨y2, s2, e2, ⟨b2, c2, _⟩, o2⟩ := pick_ok (b := 980000) (s := s1) 4 (by omega) (o1.le (by omega))
  obtain ⟨q, s3, e3, o3⟩ := one_ok (b := 970000) (s := s2) 20 (by omega) (o2.le (by omega))
  have c1 := c1 (by omega)
  have c2 := c2 (by omega)
  rw [e1, callK_some]
  dsimp only
  rw [e2, callK_some]
  dsimp only
  rw [e3, callK_some, wrap_sm (2 + y1) (by omega) (by omega), wrap_sm (4 + y2) (by omega) (by omega)]
  dsimp only
  cases q
  · rw [if_neg (by decide)]
    exact ⟨_, _, rfl, by dsimp only; omega, by dsimp only; omega, o3.le (by omega)⟩
  · rw [if_pos rfl]
    obtain ⟨z, s4, e4, _, o4⟩ := amongO_ok (b := 960000) (s := s3) ([0, 12, 16] : List Int) (by simp) (by omega) (o3.le (by omega))
    rw [e4, callK_some]
    exact ⟨_, _, rfl, by dsimp only; omega, by dsimp only; omega, o4.le (by omega)⟩
theorem drawT_ok {s : Sl00Src} (h : SrcOk 1000000 s) : ∃ r, p_spec_l07Draw s = some r ∧ r.2.2.2.2.2.1.length ≤ 200 ∧ r.2.2.2.2.2.2.length ≤ 200 ∧ SrcOk 100 r.2.2.2.2.1 := by
  unfold p_spec_l07Draw p_spec_l07Count
  obtain ⟨g, s1, e1, gD, gB, o1⟩ := geo_ok h
  rw [e1, callK_some]
  dsimp only
  have hm := mul_le (a := g.Dies) (b := g.Blocks) (by omega) (by omega)
  have wc : IntKind.i64.wrap (g.Dies * g.Blocks) = g.Dies * g.Blocks := wrap_sm _ (by omega) (by omega)
  refine iterK_ex (fun (d : Nat) (st : Int × Sl00Src × List Int) => st.1 + d = g.Dies * g.Blocks ∧ 0 ≤ st.1 ∧ (st.2.2.length : Int) ≤ st.1 ∧ SrcOk (800000 - 10 * st.1) st.2.1) (fun d st hst nx hnx => ?_) (g.Dies * g.Blocks).toNat _ (by unfold NN; omega) ⟨by dsimp only; omega, by simp, by simp, o1.le (by dsimp only; omega)⟩
  obtain ⟨v2, v3, v4⟩ := st
  obtain ⟨k1, k2, k3, k4⟩ := hst
  dsimp only at k1 k2 k3 k4 ⊢
  rw [callK_some]
  by_cases hv : v2 < IntKind.i64.wrap (g.Dies * g.Blocks)
  · rw [if_pos hv]
    rw [wc] at hv
    obtain ⟨q, s2, e2, o2⟩ := one_ok (b := 800000 - 10 * v2 - 2) (s := v3) 9 (by omega) (k4.le (by omega))
    have w1 : IntKind.i64.wrap (v2 + 1) = v2 + 1 := wrap_sm _ (by omega) (by omega)
    rw [e2, callK_some, w1]
    dsimp only
    cases q
    · rw [if_neg (by decide)]
      exact hnx (d - 1) (v2 + 1, s2, v4) (by omega) ⟨by dsimp only; omega, by dsimp only; omega, by dsimp only; omega, o2.le (by dsimp only; omega)⟩
    · rw [if_pos rfl, grd_pos (appOk_of _ _ (by omega))]
      exact hnx (d - 1) (v2 + 1, s2, v4 ++ [v2]) (by omega) ⟨by dsimp only; omega, by dsimp only; omega, by simp; omega, o2.le (by dsimp only; omega)⟩
  rw [if_neg hv]
  obtain ⟨y10, s3, e3, _, o3⟩ := pick_ok (b := 500000) (s := v3) 2 (by omega) (k4.le (by omega))
  rw [e3, callK_some]
  dsimp only
  obtain ⟨t0, c0, e4, t1, t2⟩ := newT_ok (g := g) (sp := IntKind.i64.wrap (1 + y10)) (l := v4) (by omega)
  rw [e4, callK_some]
  unfold flatT
  dsimp only
  by_cases hc0 : c0 = 0
  · rw [if_neg (by simpa using hc0)]
    obtain ⟨y5, s5, e5, ⟨p1, p2, _⟩, o5⟩ := pick_ok (b := 400000) (s := s3) 4 (by omega) (o3.le (by omega))
    have p2 := p2 (by omega)
    rw [e5, callK_some]
    dsimp only
    refine iterK_ex (fun (d : Nat) (st : Int × Sl00Src × Int × Int × Int × Int × (List Int) × (List Int)) => ∃ t : BadTable, st.2.2 = (t.Geo.Dies, t.Geo.Blocks, t.Geo.Pages, t.Spare, t.Bad, t.Remap) ∧ st.1 = (d : Int) ∧ d ≤ 4 ∧ t.Bad.length + d ≤ 110 ∧ t.Remap.length ≤ 100 ∧ SrcOk (1000 + 10 * (d : Int)) st.2.1) (fun d st hst nx hnx => ?_) y5.toNat _ (by unfold NN; omega) ⟨t0, rfl, by dsimp only; omega, by omega, by omega, t2, o5.le (by omega)⟩
    obtain ⟨v16, v17, v18, v19, v20, v21, v22, v23⟩ := st
    obtain ⟨t, e, r1, r2, r3, r4, r5⟩ := hst
    dsimp only at e r1 r5 ⊢
    simp only [Prod.mk.injEq] at e
    obtain ⟨rfl, rfl, rfl, rfl, rfl, rfl⟩ := e
    subst r1
    by_cases hd : (d : Int) > 0
    · rw [if_pos hd, callK_some]
      obtain ⟨y, s6, e6, _, o6⟩ := pick_ok (b := 1000 + 10 * (d : Int) - 2) (s := v17) (IntKind.i64.wrap (g.Dies * g.Blocks)) (by omega) (r5.le (by omega))
      rw [e6, callK_some]
      dsimp only
      obtain ⟨r7, e7, h7⟩ := retS t (by omega) (by omega) y
      have wd : IntKind.i64.wrap ((d : Int) - 1) = ((d - 1 : Nat) : Int) := by rw [wrap_sm _ (by omega) (by omega)]; omega
      rw [e7, callK_some, wd]
      by_cases hc : r7.2.2.2.2.1 = 0
      · rw [if_pos hc]
        obtain ⟨t', rfl, l1, l2⟩ := h7 hc
        exact hnx (d - 1) _ (by omega) ⟨t', rfl, rfl, by omega, by omega, by omega, o6.le (by omega)⟩
      · rw [if_neg hc]
        exact hnx (d - 1) _ (by omega) ⟨t, rfl, rfl, by omega, by omega, r4, o6.le (by omega)⟩
    · rw [if_neg hd]
      obtain ⟨q, s8, e8, o8⟩ := one_ok (b := 900) (s := v17) 10 (by omega) (r5.le (by omega))
      rw [e8, callK_some]
      dsimp only
      cases q
      · rw [if_neg (by decide)]
        exact ⟨_, rfl, by dsimp only; omega, by dsimp only; omega, o8.le (by omega)⟩
      rw [if_pos rfl]
      obtain ⟨y, s9, e9, _, o9⟩ := pick_ok (b := 800) (s := s8) 4 (by omega) (o8.le (by omega))
      rw [e9, callK_some]
      dsimp only
      by_cases c0 : y = 0
      · rw [if_pos c0]
        obtain ⟨z, sA, eA, _, oA⟩ := amongO_ok (b := 700) (s := s9) ([0, (IntKind.i64.wrap (t.Geo.Blocks - 1)), 4, 5] : List Int) (by simp) (by omega) (o9.le (by omega))
        rw [eA, callK_some]
        exact ⟨_, rfl, by dsimp only; omega, by dsimp only; omega, oA.le (by omega)⟩
      rw [if_neg c0]
      by_cases c1 : y = 1
      · rw [if_pos c1]
        obtain ⟨z, sA, eA, _, oA⟩ := amongO_ok (b := 700) (s := s9) ([(-1), 0, 50] : List Int) (by simp) (by omega) (o9.le (by omega))
        rw [eA, callK_some, grd_pos (appOk_of _ _ (by omega))]
        exact ⟨_, rfl, by simp; omega, by dsimp only; omega, oA.le (by omega)⟩
      rw [if_neg c1]
      by_cases c2 : y = 2
      · rw [if_pos c2]
        by_cases hl : (t.Remap.length : Int) > 0
        · rw [if_pos hl]
          obtain ⟨z, sA, eA, ⟨b1, b2, b3⟩, oA⟩ := pick_ok (b := 700) (s := s9) (t.Remap.length : Int) (by omega) (o9.le (by omega))
          obtain ⟨x, sB, eB, _, oB⟩ := pick_ok (b := 600) (s := sA) (IntKind.i64.wrap (g.Dies * g.Blocks)) (by omega) (oA.le (by omega))
          have hz : z < (t.Remap.length : Int) := by
            by_cases h1 : (1 : Int) < (t.Remap.length : Int)
            · exact b2 h1
            · have := b3 (by omega); omega
          rw [eA, callK_some, callK_some]
          dsimp only
          rw [eB, callK_some, getK_in b1 hz]
          exact ⟨_, rfl, by dsimp only; omega, by dsimp only; rw [List.length_set]; omega, oB.le (by omega)⟩
        · rw [if_neg hl]
          exact ⟨_, rfl, by dsimp only; omega, by dsimp only; omega, o9.le (by omega)⟩
      rw [if_neg c2]
      by_cases c3 : y = 3
      · rw [if_pos c3]
        obtain ⟨z, sA, eA, _, oA⟩ := amongO_ok (b := 700) (s := s9) ([1, 3, 4] : List Int) (by simp) (by omega) (o9.le (by omega))
        rw [eA, callK_some]
        exact ⟨_, rfl, by dsimp only; omega, by dsimp only; omega, oA.le (by omega)⟩
      · rw [if_neg c3]
        exact ⟨_, rfl, by dsimp only; omega, by dsimp only; omega, o9.le (by omega)⟩
  · rw [if_pos hc0]
    obtain ⟨y13, s4, e5, _, o4⟩ := pick_ok (b := 450000) (s := s3) 2 (by omega) (o3.le (by omega))
    rw [e5, callK_some]
    dsimp only
    have hn : ∀ a b c, p_spec_NewBadTable' a b c = p_spec_NewBadTable a b c := fun _ _ _ => rfl
    obtain ⟨t0', c0', e4', t1', t2'⟩ := newT_ok (g := g) (sp := IntKind.i64.wrap (1 + y13)) (l := []) (by simp)
    rw [hn, e4', callK_some]
    unfold flatT
    dsimp only
    obtain ⟨y5, s5, e5, ⟨p1, p2, _⟩, o5⟩ := pick_ok (b := 400000) (s := s4) 4 (by omega) (o4.le (by omega))
    have p2 := p2 (by omega)
    rw [e5, callK_some]
    dsimp only
    refine iterK_ex (fun (d : Nat) (st : Int × Sl00Src × Int × Int × Int × Int × (List Int) × (List Int)) => ∃ t : BadTable, st.2.2 = (t.Geo.Dies, t.Geo.Blocks, t.Geo.Pages, t.Spare, t.Bad, t.Remap) ∧ st.1 = (d : Int) ∧ d ≤ 4 ∧ t.Bad.length + d ≤ 110 ∧ t.Remap.length ≤ 100 ∧ SrcOk (1000 + 10 * (d : Int)) st.2.1) (fun d st hst nx hnx => ?_) y5.toNat _ (by unfold NN; omega) ⟨t0', rfl, by dsimp only; omega, by omega, by omega, t2', o5.le (by omega)⟩
    obtain ⟨v16, v17, v18, v19, v20, v21, v22, v23⟩ := st
    obtain ⟨t, e, r1, r2, r3, r4, r5⟩ := hst
    dsimp only at e r1 r5 ⊢
    simp only [Prod.mk.injEq] at e
    obtain ⟨rfl, rfl, rfl, rfl, rfl, rfl⟩ := e
    subst r1
    by_cases hd : (d : Int) > 0
    · rw [if_pos hd, callK_some]
      obtain ⟨y, s6, e6, _, o6⟩ := pick_ok (b := 1000 + 10 * (d : Int) - 2) (s := v17) (IntKind.i64.wrap (g.Dies * g.Blocks)) (by omega) (r5.le (by omega))
      rw [e6, callK_some]
      dsimp only
      obtain ⟨r7, e7, h7⟩ := retS t (by omega) (by omega) y
      have wd : IntKind.i64.wrap ((d : Int) - 1) = ((d - 1 : Nat) : Int) := by rw [wrap_sm _ (by omega) (by omega)]; omega
      rw [e7, callK_some, wd]
      by_cases hc : r7.2.2.2.2.1 = 0
      · rw [if_pos hc]
        obtain ⟨t', rfl, l1, l2⟩ := h7 hc
        exact hnx (d - 1) _ (by omega) ⟨t', rfl, rfl, by omega, by omega, by omega, o6.le (by omega)⟩
      · rw [if_neg hc]
        exact hnx (d - 1) _ (by omega) ⟨t, rfl, rfl, by omega, by omega, r4, o6.le (by omega)⟩
    · rw [if_neg hd]
      obtain ⟨q, s8, e8, o8⟩ := one_ok (b := 900) (s := v17) 10 (by omega) (r5.le (by omega))
      rw [e8, callK_some]
      dsimp only
      cases q
      · rw [if_neg (by decide)]
        exact ⟨_, rfl, by dsimp only; omega, by dsimp only; omega, o8.le (by omega)⟩
      rw [if_pos rfl]
      obtain ⟨y, s9, e9, _, o9⟩ := pick_ok (b := 800) (s := s8) 4 (by omega) (o8.le (by omega))
      rw [e9, callK_some]
      dsimp only
      by_cases c0 : y = 0
      · rw [if_pos c0]
        obtain ⟨z, sA, eA, _, oA⟩ := amongO_ok (b := 700) (s := s9) ([0, (IntKind.i64.wrap (t.Geo.Blocks - 1)), 4, 5] : List Int) (by simp) (by omega) (o9.le (by omega))
        rw [eA, callK_some]
        exact ⟨_, rfl, by dsimp only; omega, by dsimp only; omega, oA.le (by omega)⟩
      rw [if_neg c0]
      by_cases c1 : y = 1
      · rw [if_pos c1]
        obtain ⟨z, sA, eA, _, oA⟩ := amongO_ok (b := 700) (s := s9) ([(-1), 0, 50] : List Int) (by simp) (by omega) (o9.le (by omega))
        rw [eA, callK_some, grd_pos (appOk_of _ _ (by omega))]
        exact ⟨_, rfl, by simp; omega, by dsimp only; omega, oA.le (by omega)⟩
      rw [if_neg c1]
      by_cases c2 : y = 2
      · rw [if_pos c2]
        by_cases hl : (t.Remap.length : Int) > 0
        · rw [if_pos hl]
          obtain ⟨z, sA, eA, ⟨b1, b2, b3⟩, oA⟩ := pick_ok (b := 700) (s := s9) (t.Remap.length : Int) (by omega) (o9.le (by omega))
          obtain ⟨x, sB, eB, _, oB⟩ := pick_ok (b := 600) (s := sA) (IntKind.i64.wrap (g.Dies * g.Blocks)) (by omega) (oA.le (by omega))
          have hz : z < (t.Remap.length : Int) := by
            by_cases h1 : (1 : Int) < (t.Remap.length : Int)
            · exact b2 h1
            · have := b3 (by omega); omega
          rw [eA, callK_some, callK_some]
          dsimp only
          rw [eB, callK_some, getK_in b1 hz]
          exact ⟨_, rfl, by dsimp only; omega, by dsimp only; rw [List.length_set]; omega, oB.le (by omega)⟩
        · rw [if_neg hl]
          exact ⟨_, rfl, by dsimp only; omega, by dsimp only; omega, o9.le (by omega)⟩
      rw [if_neg c2]
      by_cases c3 : y = 3
      · rw [if_pos c3]
        obtain ⟨z, sA, eA, _, oA⟩ := amongO_ok (b := 700) (s := s9) ([1, 3, 4] : List Int) (by simp) (by omega) (o9.le (by omega))
        rw [eA, callK_some]
        exact ⟨_, rfl, by dsimp only; omega, by dsimp only; omega, oA.le (by omega)⟩
      · rw [if_neg c3]
        exact ⟨_, rfl, by dsimp only; omega, by dsimp only; omega, o9.le (by omega)⟩

/-! ### The draw -/
theorem dr_ok {code : List Int} (h : ∀ x ∈ code, 0 ≤ x ∧ x ≤ 255) (hl : code.length ≤ 1048576) : ∃ f t, p_spec_DrawMarkBadBlocks code = some (f, t) ∧ S8 f.Blocks ∧ t.Bad.length ≤ 900 ∧ t.Remap.length ≤ 900 := by
  unfold p_spec_DrawMarkBadBlocks
  obtain ⟨s, e0, o0⟩ := from_ok h hl
  obtain ⟨r, e1, q1, q2⟩ := flash_ok (o0.le (by omega))
  obtain ⟨o, s2, e2, o2⟩ := one_ok (b := 1900000) (s := r.2.2.2.2.2.2.2.1) 4 (by omega) (q2.le (by omega))
  rw [e0, callK_some, e1, callK_some, e2, callK_some]
  dsimp only
  cases o with
  | true =>
    rw [if_pos rfl]
    obtain ⟨t, e3, h1, h2, _⟩ := drawT_ok (o2.le (by omega))
    rw [e3, callK_some]
    exact ⟨_, _, rfl, q1, by dsimp only; omega, by dsimp only; omega⟩
  | false =>
    rw [if_neg (by decide)]
    obtain ⟨y6, s3, e3, _, o3⟩ := pick_ok (b := 1800000) (s := s2) 2 (by omega) (o2.le (by omega))
    obtain ⟨t0, c0, e4, t1, t2⟩ := newT_ok (g := ⟨r.1, r.2.1, r.2.2.1⟩) (sp := IntKind.i64.wrap (1 + y6)) (l := []) (by simp)
    obtain ⟨y8, s5, e5, ⟨b1, b2, _⟩, o5⟩ := pick_ok (b := 1700000) (s := s3) 3 (by omega) (o3.le (by omega))
    have b2 := b2 (by omega)
    rw [e3, callK_some]
    dsimp only
    rw [e4, callK_some]
    rw [e5, callK_some]
    unfold flatT
    dsimp only
    obtain ⟨⟨f, t⟩, e, g1, g2, g3⟩ := iterK_ex (Q := fun (q : Flash × BadTable) => q.1 = (⟨⟨r.1, r.2.1, r.2.2.1⟩, r.2.2.2.2.2.2.2.2, r.2.2.2.1, r.2.2.2.2.1, r.2.2.2.2.2.1, r.2.2.2.2.2.2.1⟩ : Flash) ∧ q.2.Bad.length ≤ 900 ∧ q.2.Remap.length ≤ 900)
      (f := fun ((v9, v10, v11, v12, v13, v14, v15, v16) : (Int × Sl00Src × Int × Int × Int × Int × (List Int) × (List Int))) (nx17 : (Int × Sl00Src × Int × Int × Int × Int × (List Int) × (List Int)) → Option (Flash × BadTable)) =>
      if v9 > 0 then
        callK (p_spec_l00Src_pick 8 v10) fun y19 =>
        callK (p_spec_RetireBlock v11 v12 v13 v14 y19.1 v15 v16) fun y20 =>
        if y20.2.2.2.2.1 = 0 then
          nx17 ((IntKind.i64.wrap (v9 - 1)), y19.2, y20.1, y20.2.1, y20.2.2.1, y20.2.2.2.1, y20.2.2.2.2.2.1, y20.2.2.2.2.2.2)
        else
          nx17 ((IntKind.i64.wrap (v9 - 1)), y19.2, v11, v12, v13, v14, v15, v16)
      else
        some ((⟨⟨r.1, r.2.1, r.2.2.1⟩, r.2.2.2.2.2.2.2.2, r.2.2.2.1, r.2.2.2.2.1, r.2.2.2.2.2.1, r.2.2.2.2.2.2.1⟩ : Flash), (⟨⟨v11, v12, v13⟩, v14, v15, v16⟩ : BadTable)))
      (fun (d : Nat) (st : Int × Sl00Src × Int × Int × Int × Int × (List Int) × (List Int)) => ∃ (t : BadTable) (sr : Sl00Src), st = ((d : Int), sr, t.Geo.Dies, t.Geo.Blocks, t.Geo.Pages, t.Spare, t.Bad, t.Remap) ∧ d ≤ 2 ∧ t.Bad.length + d ≤ 110 ∧ t.Remap.length ≤ 100 ∧ SrcOk (1000 + 10 * d) sr) (fun d st hst nx hnx => by
        obtain ⟨t, sr, rfl, r2, r3, r4, r5⟩ := hst
        dsimp only
        by_cases hd : (d : Int) > 0
        · rw [if_pos hd]
          obtain ⟨y, s6, e6, _, o6⟩ := pick_ok (b := 1000 + 10 * (d : Int) - 2) (s := sr) 8 (by omega) (r5.le (by omega))
          obtain ⟨r7, e7, h7⟩ := retS t (by omega) (by omega) y
          have wd : IntKind.i64.wrap ((d : Int) - 1) = ((d - 1 : Nat) : Int) := by rw [wrap_sm _ (by omega) (by omega)]; omega
          rw [e6, callK_some]
          dsimp only
          rw [e7, callK_some, wd]
          by_cases hc : r7.2.2.2.2.1 = 0
          · rw [if_pos hc]
            obtain ⟨t', rfl, l1, l2⟩ := h7 hc
            exact hnx (d - 1) _ (by omega) ⟨t', s6, rfl, by omega, by omega, by omega, o6.le (by omega)⟩
          · rw [if_neg hc]
            exact hnx (d - 1) _ (by omega) ⟨t, s6, rfl, by omega, by omega, r4, o6.le (by omega)⟩
        · rw [if_neg hd]
          exact ⟨_, rfl, rfl, by dsimp only; omega, by dsimp only; omega⟩)
      y8.toNat (y8, s5, t0.Geo.Dies, t0.Geo.Blocks, t0.Geo.Pages, t0.Spare, t0.Bad, t0.Remap) (by unfold NN; omega) ⟨t0, s5, by rw [show ((y8.toNat : Nat) : Int) = y8 by omega], by omega, by omega, t2, o5.le (by omega)⟩
    subst g1
    exact ⟨_, t, e, q1, g2, g3⟩
/-! ### Marking -/
theorem own15_ok (f : Flash) (h : Fit f.Blocks) : p_spec_l15Own f = some f.Blocks := by
  have hl := h.len
  unfold p_spec_l15Own
  rw [grd_pos (by omega)]
  refine forK_rule (fun i (v : List Block) => v = f.Blocks.take i) (fun i hi v hv nx hnx => ?_) (fun v hv => by rw [hv, List.take_length]) _ (by simp)
  have hp := h.pg (List.getElem_mem hi)
  have hv2 : v.length = i := by rw [hv, List.length_take]; omega
  rw [grd_pos (appOk_of _ _ (by omega)), grd_pos (appOk_of _ _ (by omega))]
  exact hnx _ (by rw [hv, List.take_succ_eq_append_getElem hi])
theorem clone_ok (f : Flash) (hF : Fit f.Blocks) : p_impl_Flash_clone f = some f.Blocks := by
  have hl := hF.len
  unfold p_impl_Flash_clone
  rw [grd_pos (appOk_of _ _ (by omega)), grd_pos (by omega)]
  refine forI_rule (fun i (v : List Block) => v = f.Blocks) (fun i hi v hv nx hnx => ?_) (fun v hv => by subst hv; rw [grd_pos (by rw [Int.toNat_natCast])]) _ rfl
  subst hv
  have hi' : i < f.Blocks.length := by omega
  rw [getK_lt hi', grd_pos (appOk_of _ _ (by have := hF.pg (List.getElem_mem hi'); omega))]
  exact hnx _ (by rw [Int.toNat_natCast, List.set_getElem_self])
theorem mod_setB {α : Type} (l : List α) (i : Nat) (f : α → α) (h : i < l.length) : l.modify i f = l.set i (f l[i]) := by
  refine List.ext_getElem? fun k => ?_
  rw [get_modB]
  by_cases c : i = k
  · subst c
    rw [if_pos rfl, List.getElem?_set_self h, List.getElem?_eq_getElem h]; rfl
  · rw [if_neg c, List.getElem?_set_ne c]
theorem mark_loop (f : Flash) (bad : List Int) (hb : ∀ b ∈ bad, 0 ≤ b ∧ b < f.Blocks.length) :
    forK bad (fun (i12 : Nat) x15 (v13 : List Block) (nx14 : (List Block) → Option (Flash × Int)) =>
          getK v13 x15 fun x16 =>
          nx14 (v13.set (Int.toNat x15) (⟨x16.Erases, x16.Next, true, x16.Pages⟩ : Block))) f.Blocks (fun (v13 : List Block) =>
          some ((⟨f.Geo, v13, f.Fuse, f.Keep, f.Off, f.Ops⟩ : Flash), 0)) = some (⟨f.Geo, mkL f.Blocks bad, f.Fuse, f.Keep, f.Off, f.Ops⟩, 0) := by
  refine forK_rule (fun i (v : List Block) => v = mkL f.Blocks (bad.take i)) (fun i hi v hv nx hnx => ?_) (fun v hv => by rw [hv, List.take_length]) _ rfl
  have hx := hb _ (List.getElem_mem hi)
  have hvl : v.length = f.Blocks.length := by rw [hv, mkL_len]
  rw [getK_in hx.1 (by omega)]
  refine hnx _ ?_
  rw [List.take_succ_eq_append_getElem hi, mkL_snoc, ← hv, mod_setB _ _ _ (by omega)]
  rfl
theorem VF.mark {f : Flash} (h : VF f) (bad : List Int) : VF ⟨f.Geo, mkL f.Blocks bad, f.Fuse, f.Keep, f.Off, f.Ops⟩ := by
  refine ⟨h.1, by dsimp only; rw [mkL_len]; exact h.2.1, h.2.2.1, h.2.2.2.1, h.2.2.2.2.1, fun b hb => ?_⟩
  obtain ⟨i, hi, rfl⟩ := List.mem_iff_getElem.mp hb
  dsimp only at hi ⊢
  rw [mkL_len] at hi
  have hg := mkL_get bad i f.Blocks
  rw [List.getElem?_eq_getElem (by rw [mkL_len]; exact hi), List.getElem?_eq_getElem hi] at hg
  injection hg with hg
  obtain ⟨k1, k2, k3, k4⟩ := h.2.2.2.2.2 _ (List.getElem_mem hi)
  rw [hg]
  exact ⟨k1, k2, k3, k4⟩
theorem VF.fit8 {f : Flash} (h : VF f) : Fit f.Blocks := by
  have hP := h.1.2.2
  have ha := h.1.all
  have hn := h.2.1
  have hc : cB f.Blocks ≤ f.Blocks.length * 16 := by
    have hb := h.2.2.2.2.2
    have hP2 : f.Geo.Pages ≤ 16 := by omega
    generalize f.Geo.Pages = P at hb hP2
    clear hn ha hP h
    generalize f.Blocks = L at hb ⊢
    induction L with
    | nil => simp [cB_nil]
    | cons b L ih =>
      have h1 := ih fun x hx => hb x (by simp [hx])
      have h2 := (hb b (by simp)).2.2.1
      rw [cB_cons, List.length_cons]
      omega
  unfold Fit
  omega
theorem scan_ok {f : Flash} (h : VF f) : p_impl_ScanBadBlocks f 1001 = some (bdIx f.Blocks f.Blocks.length) := by
  have hf := h.fit8
  have hl := hf.len
  obtain ⟨y, e, hy⟩ := pl_iVF f hf
  have hy1 := hy.mpr h
  subst hy1
  unfold p_impl_ScanBadBlocks
  rw [e, callK_some, if_pos rfl, grd_pos (by omega)]
  refine forK_rule (fun i (v : List Int) => v = bdIx f.Blocks i) (fun i hi v hv nx hnx => ?_) (fun v hv => by rw [hv]) _ rfl
  have hv2 : v.length ≤ i := by rw [hv]; exact bdIx_len _ _
  have hE := (h.2.2.2.2.2 _ (List.getElem_mem hi)).1
  have hb : isBd f.Blocks i = f.Blocks[i].Bad := by unfold isBd; rw [List.getElem?_eq_getElem hi]; rfl
  by_cases c : f.Blocks[i].Bad = true
  · rw [if_pos c, grd_pos (appOk_of _ _ (by omega))]
    exact hnx _ (by rw [bdIx_succ, if_pos (hb.trans c), hv])
  · rw [if_neg c, if_neg (by omega)]
    exact hnx _ (by rw [bdIx_succ, if_neg (by rw [hb]; exact c), hv, List.append_nil])
theorem any_loop {R : Type} (bad : List Int) (i : Nat) (b0 : Bool) (k : Bool → Option R) :
    forK bad (fun (i41 : Nat) x44 (v42 : Bool) (nx43 : Bool → Option R) =>
                if v42 = true then
                  nx43 true
                else
                  nx43 (x44 == (i : Int))) b0 k = k (b0 || bad.any fun b => b == (i : Int)) := by
  refine forK_rule (fun j (v : Bool) => v = (b0 || (bad.take j).any fun b => b == (i : Int))) (fun j hj v hv nx hnx => ?_) (fun v hv => by rw [hv, List.take_length]) _ (by simp)
  have hs : (b0 || (bad.take (j + 1)).any fun b => b == (i : Int)) = (v || bad[j] == (i : Int)) := by
    rw [List.take_succ_eq_append_getElem hj, List.any_append, hv, ← Bool.or_assoc]
    simp
  cases hv1 : v with
  | true =>
    rw [if_pos rfl]
    exact hnx _ (by rw [hs, hv1]; rfl)
  | false =>
    rw [if_neg (by decide)]
    exact hnx _ (by rw [hs, hv1]; rfl)
theorem geo_eq (a b : Geometry) : ((a.Dies == b.Dies) && ((a.Blocks == b.Blocks) && ((a.Pages == b.Pages) && true))) = true ↔ a = b := by
  cases a; cases b
  simp
theorem pl_law (code : List Int) (hk : okL u8r code) : p_laws_FnMarkedBlocks code = some true := by
  unfold p_laws_FnMarkedBlocks
  by_cases hc : (code.length : Int) > 400
  · rw [if_pos hc]
  rw [if_neg hc]
  obtain ⟨f, t, e0, hS, hb9, hr9⟩ := dr_ok hk.2 (by omega)
  rw [e0, callK_some]
  dsimp only
  obtain ⟨y, e, hy⟩ := pl_sVF f hS.fit
  obtain ⟨y', e', hy'⟩ := pl_iVF f hS.fit
  have hyy : y' = y := by
    have : (y' = true) ↔ (y = true) := hy'.trans hy.symm
    cases y <;> cases y' <;> simp_all
  subst hyy
  obtain ⟨w, ws, wi, hw⟩ := pl_V t (by omega) (by omega)
  have bad : ∀ c : Int, c ≠ 0 → p_impl_MarkBadBlocks f t = some (⟨⟨0, 0, 0⟩, [], 0, 0, false, 0⟩, c) → p_spec_MarkBadBlocks f t = some (⟨⟨0, 0, 0⟩, [], 0, 0, false, 0⟩, c) → ∀ (T : Option Bool) (U : Flash × Int → Option Bool), (callK (p_impl_MarkBadBlocks f t) fun y3 => callK (p_spec_MarkBadBlocks f t) fun y4 => if ¬ y3.2 = y4.2 then some false else if ¬ y3.2 = 0 then some true else U y3) = some true := fun c h0 g1 g2 T U => by
    rw [g1, g2, callK_some, callK_some, if_neg (by simp), if_pos h0]
  by_cases h0 : y' = true
  rotate_left
  · refine bad 1 (by decide) ?_ ?_ none _
    · unfold p_impl_MarkBadBlocks; rw [e', callK_some, if_neg h0]
    · unfold p_spec_MarkBadBlocks; rw [e, callK_some, if_neg h0]
  have hv := hy'.mp h0
  by_cases h1 : w = true
  rotate_left
  · refine bad 1 (by decide) ?_ ?_ none _
    · unfold p_impl_MarkBadBlocks; rw [e', callK_some, if_pos h0, wi, callK_some, if_neg h1]
    · unfold p_spec_MarkBadBlocks; rw [e, callK_some, if_pos h0, ws, callK_some, if_neg h1]
  have hV := hw.mp h1
  by_cases h2 : f.Geo = t.Geo
  rotate_left
  · have h3 : ¬ (((f.Geo.Dies == t.Geo.Dies) && ((f.Geo.Blocks == t.Geo.Blocks) && ((f.Geo.Pages == t.Geo.Pages) && true))) = true) := fun h => h2 ((geo_eq _ _).mp h)
    refine bad 5 (by decide) ?_ ?_ none _
    · unfold p_impl_MarkBadBlocks; rw [e', callK_some, if_pos h0, wi, callK_some, if_pos h1, if_neg h3]
    · unfold p_spec_MarkBadBlocks; rw [e, callK_some, if_pos h0, ws, callK_some, if_pos h1, if_neg h3]
  have h3 := (geo_eq _ _).mpr h2
  have hbr : ∀ b ∈ t.Bad, 0 ≤ b ∧ b < f.Blocks.length := fun b hb => by
    have q1 := hV.sh.bad.2 b hb
    have q2 := hv.2.1
    rw [h2] at q2
    omega
  have g1 : p_impl_MarkBadBlocks f t = some (⟨f.Geo, mkL f.Blocks t.Bad, f.Fuse, f.Keep, f.Off, f.Ops⟩, 0) := by
    unfold p_impl_MarkBadBlocks
    rw [e', callK_some, if_pos h0, wi, callK_some, if_pos h1, if_pos h3, clone_ok f hv.fit8, callK_some, grd_pos (by omega)]
    exact mark_loop f t.Bad hbr
  have g2 : p_spec_MarkBadBlocks f t = some (⟨f.Geo, mkL f.Blocks t.Bad, f.Fuse, f.Keep, f.Off, f.Ops⟩, 0) := by
    unfold p_spec_MarkBadBlocks
    rw [e, callK_some, if_pos h0, ws, callK_some, if_pos h1, if_pos h3, own15_ok f hv.fit8, callK_some, grd_pos (by omega)]
    exact mark_loop f t.Bad hbr
  have hvx := hv.mark t.Bad
  obtain ⟨z, ez, hz⟩ := pl_sVF _ hvx.fit8
  have hz1 := hz.mpr hvx
  subst hz1
  have hsc := scan_ok hvx
  have hfl := hv.fit8.len
  dsimp only at hsc
  rw [g1, g2, callK_some, callK_some, if_neg (by simp), if_neg (by simp)]
  dsimp only
  rw [hsc, callK_some, ez, callK_some, if_pos rfl, if_neg (by rw [mkL_len]; simp), grd_pos (by rw [mkL_len]; omega)]
  generalize hX : mkL f.Blocks t.Bad = X at *
  have hXl : X.length = f.Blocks.length := by rw [← hX, mkL_len]
  refine forK_rule (fun i (v : Int) => v = ((bdIx X i).length : Int)) (fun i hi v hvi nx hnx => ?_) (fun v hvi => by rw [hvi]; simp) _ rfl
  subst hvi
  have hif : i < f.Blocks.length := by omega
  have hg := mkL_get t.Bad i f.Blocks
  rw [hX, List.getElem?_eq_getElem hi, List.getElem?_eq_getElem hif] at hg
  injection hg with hg
  have hany : (t.Bad.any fun b => b.toNat == i) = (t.Bad.any fun b => b == (i : Int)) := by
    rw [Bool.eq_iff_iff, List.any_eq_true, List.any_eq_true]
    constructor
    · rintro ⟨b, hb, h⟩
      have := hbr b hb
      refine ⟨b, hb, ?_⟩
      simp only [beq_iff_eq] at h ⊢
      omega
    · rintro ⟨b, hb, h⟩
      have := hbr b hb
      refine ⟨b, hb, ?_⟩
      simp only [beq_iff_eq] at h ⊢
      omega
  rw [getK_lt hif, grd_pos (by omega), any_loop]
  have hbd : isBd X i = X[i].Bad := by unfold isBd; rw [List.getElem?_eq_getElem hi]; rfl
  have hxb : X[i].Bad = (f.Blocks[i].Bad || t.Bad.any fun b => b == (i : Int)) := by rw [hg, hany]
  rw [← hxb, if_pos (by simp)]
  by_cases c : X[i].Bad = true
  · have hat := bdIx_at X hi (hbd.trans c)
    obtain ⟨hlt, hat2⟩ := List.getElem?_eq_some_iff.mp hat
    rw [if_pos c, if_neg (by omega), getK_lt hlt, hat2, if_neg (by simp), wrap_sm _ (by omega) (by have := bdIx_len X i; omega)]
    exact hnx _ (by rw [bdIx_succ, if_pos (hbd.trans c)]; simp)
  · rw [if_neg c]
    exact hnx _ (by rw [bdIx_succ, if_neg (by rw [hbd]; exact c), List.append_nil])
theorem f_law (code : List Int) (hk : okL u8r code) : callL E 8 [.d (.arr (code.map rU))] [] = some (BO true, []) := L_laws_FnMarkedBlocks code (pl_law code hk)



end Go.Proofs.Ytjnhclnnobejgaa.T12

/- FnFaultsTwice: what its functions come to, and the row; conditions: none. -/
import Derived.Test.YtjnhclnnobejgaaT04
import Derived.Test.YtjnhclnnobejgaaEz
import Derived.Test.YtjnhclnnobejgaaRows
import Derived.WalkKit
import Derived.ProofKit
import Derived.OpenShut
import Derived.ShutString
import Derived.ChangeOld
import Derived.Below
import Derived.SizedLaws
import Derived.Test.YtjnhclnnobejgaaF04a
namespace Go.Proofs.Ytjnhclnnobejgaa.T04
open Go.Proofs.YtjnhclnnobejgaaE
set_option maxRecDepth 100000
set_option linter.unusedVariables false
set_option linter.unusedSimpArgs false
set_option maxHeartbeats 4000000 in
theorem L_impl_ApplyFaults (a_0 : Flash) (a_1 : List Fault) {r : (Flash × Int)} (h : p_impl_ApplyFaults a_0 a_1 = some r) : callL E 38 [.agg [IN a_0.Geo.Dies, IN a_0.Geo.Blocks, IN a_0.Geo.Pages, .d (.arr (a_0.Blocks.map rBlock)), IN a_0.Fuse, IN a_0.Keep, BO a_0.Off, IN a_0.Ops], .d (.arr (a_1.map rFault))] ([] : Fo) = some (.tup [.agg [IN r.1.Geo.Dies, IN r.1.Geo.Blocks, IN r.1.Geo.Pages, .d (.arr (r.1.Blocks.map rBlock)), IN r.1.Fuse, IN r.1.Keep, BO r.1.Off, IN r.1.Ops], IN r.2], ([] : Fo)) := by
  unfold p_impl_ApplyFaults at h
  refine callW (fu := Try.f38) rfl rfl rfl NN ?_
  intro lp cl hlp hcl
  conv => lhs; whnf
  obtain ⟨y1, h_y1, h⟩ := callK_inv h
  rw [cl_eq hcl (L_impl_ValidFlash a_0 h_y1)]
  rotate_left
  · show _ = _; kernel_rfl
  · show _ = _; kernel_rfl
  conv => lhs; whnf
  cases hb2 : y1
  · replace h := ifF h (booF hb2); conv => lhs; whnf
    try (rw [hb2]; conv => lhs; whnf)
    try (rw [hb2]; conv => lhs; whnf)
    try (rw [hb2]; conv => lhs; whnf)
    try (rw [hb2]; conv => lhs; whnf)
    try (rw [hb2]; conv => lhs; whnf)
    obtain rfl := Option.some.inj h; show _ = _; kernel_rfl

  · replace h := ifT h hb2; conv => lhs; whnf
    try (rw [hb2]; conv => lhs; whnf)
    try (rw [hb2]; conv => lhs; whnf)
    try (rw [hb2]; conv => lhs; whnf)
    obtain ⟨y3, h_y3, h⟩ := callK_inv h
    rw [cl_eq hcl (L_impl_scriptOk a_0.Geo a_1 h_y3)]
    rotate_left
    · show _ = _; kernel_rfl
    · show _ = _; kernel_rfl
    conv => lhs; whnf
    try (rw [hb2]; conv => lhs; whnf)
    try (rw [hb2]; conv => lhs; whnf)
    cases hb4 : y3
    · replace h := ifF h (booF hb4); conv => lhs; whnf
      obtain rfl := Option.some.inj h; show _ = _; kernel_rfl

    · replace h := ifT h hb4; conv => lhs; whnf
      obtain ⟨y5, h_y5, h⟩ := callK_inv h
      rw [cl_eq hcl (L_impl_Flash_clone a_0 h_y5)]
      rotate_left
      · show _ = _; kernel_rfl
      · show _ = _; kernel_rfl
      conv => lhs; whnf
      conv => lhs; whnf
      try (rw [litF_nst (f := rBlock) (g := rS) (p := fun x => x.Pages) (fun _ => rfl) (fun _ => rfl) (fun _ => rfl)]; conv => lhs; whnf)
      try rw [len_of (l := a_1) (r := rFault)]
      obtain ⟨hl_i15, h⟩ := grd_inv h
      refine loop_for hlp (l := a_1) hl_i15 (fun (i15 : Nat) ((v16, v17, v18, v19) : (Int × Int × Bool × (List Block))) => ([.dead, .dead, .dead, .dead, .bp 0 0, .dead, .bp 1 0, .dead, .dead, .dead, .dead, .dead, .dead, .dead, .dead, .dead, .dead, .dead, .dead, .dead, .dead, .dead, .dead, .d (.arr (a_1.map rFault)), IN (a_1.length : Int), IN (i15 : Int)] ++ List.replicate 11 .dead : List V)) (fun (i15 : Nat) ((v16, v17, v18, v19) : (Int × Int × Bool × (List Block))) => ([some (.box [IN 0, IN 0, IN 0, .d (.arr (([] : List Block).map rBlock)), IN 0, IN 0, BO false, IN 0]), some (.box [IN a_0.Geo.Dies, IN a_0.Geo.Blocks, IN a_0.Geo.Pages, .nsl 2, IN v16, IN v17, BO v18, IN a_0.Ops]), some (.nst ⟨91, 4, 3, 9, 1⟩ v19.length (v19.map rBlock))] : Fo)) (fun (r : (Flash × Int)) => ((.tup [.agg [IN r.1.Geo.Dies, IN r.1.Geo.Blocks, IN r.1.Geo.Pages, .d (.arr (r.1.Blocks.map rBlock)), IN r.1.Fuse, IN r.1.Keep, BO r.1.Off, IN r.1.Ops], IN r.2] : V), ([] : Fo))) ?_ ?_ (a_0.Fuse, a_0.Keep, a_0.Off, y5) _ (fun kk => by kernel_rfl) h
      · clear h
        rintro next_nx20 nx20 i15 hi_i15 hnx20 ⟨v16, v17, v18, v19⟩ r h
        try dsimp only at h
        have hn_i15 : i15 < 4611686018427387904 := by omega
        have hx_x21 := get_map rFault a_1 i15 hi_i15
        generalize a_1[i15] = x21 at h hx_x21
        have hd_i15 : (decide ((i15 : Int) < (a_1.length : Int))) = true := decide_eq_true (by omega)
        conv => lhs; whnf
        try (first | rw [hd_i15] | (split; (first | (rename_i hx; exact absurd (hd_i15.symm.trans hx) (by decide)) | (rotate_left; rename_i hx; exact absurd (hd_i15.symm.trans hx) (by decide)))))
        conv => lhs; whnf
        try (rw [decide_eq_true hq_x21]; conv => lhs; whnf)
        rw [hx_x21]
        conv => lhs; whnf
        rw [hx_x21]
        conv => lhs; whnf
        obtain ⟨y22, h_y22, h⟩ := callK_inv h
        rw [cl_eq hcl (L_impl_Flash_fault x21 a_0.Geo.Dies a_0.Geo.Blocks a_0.Geo.Pages v16 v17 v18 a_0.Ops v19 h_y22)]
        rotate_left
        · show _ = _; kernel_rfl
        · show _ = _; kernel_rfl
        conv => lhs; whnf
        cases hb23 : (y22.1 != 0)
        · replace h := ifF h ((fun h => not_not_intro (bneF h)) hb23); conv => lhs; whnf
          rw [wrap_nat i15 (by have := hn_i15; omega)]
          exact hnx20 _ _ _ _ (fun kk => by kernel_rfl) h
        · replace h := ifT h (bneT hb23); conv => lhs; whnf
          obtain rfl := Option.some.inj h; show _ = _; kernel_rfl

      · clear h
        rintro next_nx20 ⟨v16, v17, v18, v19⟩ r h
        try dsimp only at h
        have hd_i15 : (decide ((a_1.length : Int) < (a_1.length : Int))) = false := decide_eq_false (by omega)
        conv => lhs; whnf
        try (first | rw [hd_i15] | (split; (first | (rename_i hx; exact absurd (hd_i15.symm.trans hx) (by decide)) | (rotate_left; rename_i hx; exact absurd (hd_i15.symm.trans hx) (by decide)))))
        conv => lhs; whnf
        obtain rfl := Option.some.inj h; show _ = _; kernel_rfl


noncomputable def p_spec_ValidFault (a_0 : Geometry) (a_1 : Fault) : Option Bool :=
  callK (p_spec_ValidGeometry a_0) fun y1 =>
  if y1 = true then
    if a_1.Kind = 1 then
      if (inR a_1.Block 0 (IntKind.i64.wrap ((IntKind.i64.wrap (a_0.Dies * a_0.Blocks)) - 1))) = true then
        if (inR a_1.Page 0 (IntKind.i64.wrap (a_0.Pages - 1))) = true then
          some (inR a_1.Bit 0 727)
        else
          some false
      else
        some false
    else
      if a_1.Kind = 2 then
        if (inR a_1.Block 0 (IntKind.i64.wrap ((IntKind.i64.wrap (a_0.Dies * a_0.Blocks)) - 1))) = true then
          if (inR a_1.Page 0 (IntKind.i64.wrap (a_0.Pages - 1))) = true then
            some (inR a_1.Bit 0 727)
          else
            some false
        else
          some false
      else
        if a_1.Kind = 3 then
          if (inR a_1.Block 0 (IntKind.i64.wrap ((IntKind.i64.wrap (a_0.Dies * a_0.Blocks)) - 1))) = true then
            if (inR a_1.Bit 0 727) = true then
              some (a_1.Page == 0)
            else
              some false
          else
            some false
        else
          if a_1.Kind = 4 then
            if (inR a_1.Block 0 (IntKind.i64.wrap ((IntKind.i64.wrap (a_0.Dies * a_0.Blocks)) - 1))) = true then
              if a_1.Page = 0 then
                some (a_1.Bit == 0)
              else
                some false
            else
              some false
          else
            if a_1.Kind = 5 then
              if a_1.Block = 0 then
                if (inR a_1.Page 0 1000000) = true then
                  some (inR a_1.Bit 0 91)
                else
                  some false
              else
                some false
            else
              some false
  else
    some false

set_option maxHeartbeats 4000000 in
theorem L_spec_ValidFault (a_0 : Geometry) (a_1 : Fault) {r : Bool} (h : p_spec_ValidFault a_0 a_1 = some r) : callL E 195 [.agg [IN a_0.Dies, IN a_0.Blocks, IN a_0.Pages], .agg [IN a_1.Kind, IN a_1.Block, IN a_1.Page, IN a_1.Bit]] ([] : Fo) = some (BO r, ([] : Fo)) := by
  unfold p_spec_ValidFault at h
  refine callW (fu := Try.f195) rfl rfl rfl NN ?_
  intro lp cl hlp hcl
  conv => lhs; whnf
  obtain ⟨y1, h_y1, h⟩ := callK_inv h
  rw [cl_eq hcl (L_spec_ValidGeometry a_0 h_y1)]
  rotate_left
  · show _ = _; kernel_rfl
  · show _ = _; kernel_rfl
  conv => lhs; whnf
  cases hb2 : y1
  · replace h := ifF h (booF hb2); conv => lhs; whnf
    obtain rfl := Option.some.inj h; show _ = _; kernel_rfl

  · replace h := ifT h hb2; conv => lhs; whnf
    rw [cl_eq hcl (L_spec_l00In a_1.Block 0 (IntKind.i64.wrap ((IntKind.i64.wrap (a_0.Dies * a_0.Blocks)) - 1)) (pl_l00In a_1.Block 0 (IntKind.i64.wrap ((IntKind.i64.wrap (a_0.Dies * a_0.Blocks)) - 1))))]
    rotate_left
    · show _ = _; kernel_rfl
    · show _ = _; kernel_rfl
    conv => lhs; whnf
    rw [cl_eq hcl (L_spec_l00In a_1.Page 0 (IntKind.i64.wrap (a_0.Pages - 1)) (pl_l00In a_1.Page 0 (IntKind.i64.wrap (a_0.Pages - 1))))]
    rotate_left
    · show _ = _; kernel_rfl
    · show _ = _; kernel_rfl
    conv => lhs; whnf
    rw [cl_eq hcl (L_spec_l00In a_1.Bit 0 727 (pl_l00In a_1.Bit 0 727))]
    rotate_left
    · show _ = _; kernel_rfl
    · show _ = _; kernel_rfl
    conv => lhs; whnf
    cases hb3 : (a_1.Kind == 1)
    · replace h := ifF h (beqF hb3); conv => lhs; whnf
      cases hb6 : (a_1.Kind == 2)
      · replace h := ifF h (beqF hb6); conv => lhs; whnf
        cases hb9 : (a_1.Kind == 3)
        · replace h := ifF h (beqF hb9); conv => lhs; whnf
          cases hb12 : (a_1.Kind == 4)
          · replace h := ifF h (beqF hb12); conv => lhs; whnf
            cases hb15 : (a_1.Kind == 5)
            · replace h := ifF h (beqF hb15); conv => lhs; whnf
              obtain rfl := Option.some.inj h; show _ = _; kernel_rfl

            · replace h := ifT h (beqT hb15); conv => lhs; whnf
              cases hb16 : (a_1.Block == 0)
              · replace h := ifF h (beqF hb16); conv => lhs; whnf
                try (rw [hb16]; conv => lhs; whnf)
                try (rw [hb16]; conv => lhs; whnf)
                try (rw [hb16]; conv => lhs; whnf)
                obtain rfl := Option.some.inj h; show _ = _; kernel_rfl

              · replace h := ifT h (beqT hb16); conv => lhs; whnf
                try (rw [hb16]; conv => lhs; whnf)
                try (rw [hb16]; conv => lhs; whnf)
                rw [cl_eq hcl (L_spec_l00In a_1.Page 0 1000000 (pl_l00In a_1.Page 0 1000000))]
                rotate_left
                · show _ = _; kernel_rfl
                · show _ = _; kernel_rfl
                conv => lhs; whnf
                try (rw [hb16]; conv => lhs; whnf)
                cases hb17 : (inR a_1.Page 0 1000000)
                · replace h := ifF h (booF hb17); conv => lhs; whnf
                  try (rw [hb17]; conv => lhs; whnf)
                  try (rw [hb17]; conv => lhs; whnf)
                  try (rw [hb17]; conv => lhs; whnf)
                  obtain rfl := Option.some.inj h; show _ = _; kernel_rfl

                · replace h := ifT h hb17; conv => lhs; whnf
                  try (rw [hb17]; conv => lhs; whnf)
                  try (rw [hb17]; conv => lhs; whnf)
                  rw [cl_eq hcl (L_spec_l00In a_1.Bit 0 91 (pl_l00In a_1.Bit 0 91))]
                  rotate_left
                  · show _ = _; kernel_rfl
                  · show _ = _; kernel_rfl
                  conv => lhs; whnf
                  try (rw [hb17]; conv => lhs; whnf)
                  obtain rfl := Option.some.inj h; show _ = _; kernel_rfl

          · replace h := ifT h (beqT hb12); conv => lhs; whnf
            cases hb13 : (inR a_1.Block 0 (IntKind.i64.wrap ((IntKind.i64.wrap (a_0.Dies * a_0.Blocks)) - 1)))
            · replace h := ifF h (booF hb13); conv => lhs; whnf
              try (rw [hb13]; conv => lhs; whnf)
              try (rw [hb13]; conv => lhs; whnf)
              try (rw [hb13]; conv => lhs; whnf)
              obtain rfl := Option.some.inj h; show _ = _; kernel_rfl

            · replace h := ifT h hb13; conv => lhs; whnf
              try (rw [hb13]; conv => lhs; whnf)
              try (rw [hb13]; conv => lhs; whnf)
              try (rw [hb13]; conv => lhs; whnf)
              cases hb14 : (a_1.Page == 0)
              · replace h := ifF h (beqF hb14); conv => lhs; whnf
                try (rw [hb14]; conv => lhs; whnf)
                try (rw [hb14]; conv => lhs; whnf)
                try (rw [hb14]; conv => lhs; whnf)
                obtain rfl := Option.some.inj h; show _ = _; kernel_rfl

              · replace h := ifT h (beqT hb14); conv => lhs; whnf
                try (rw [hb14]; conv => lhs; whnf)
                try (rw [hb14]; conv => lhs; whnf)
                try (rw [hb14]; conv => lhs; whnf)
                obtain rfl := Option.some.inj h; show _ = _; kernel_rfl

        · replace h := ifT h (beqT hb9); conv => lhs; whnf
          cases hb10 : (inR a_1.Block 0 (IntKind.i64.wrap ((IntKind.i64.wrap (a_0.Dies * a_0.Blocks)) - 1)))
          · replace h := ifF h (booF hb10); conv => lhs; whnf
            try (rw [hb10]; conv => lhs; whnf)
            obtain rfl := Option.some.inj h; show _ = _; kernel_rfl

          · replace h := ifT h hb10; conv => lhs; whnf
            try (rw [hb10]; conv => lhs; whnf)
            cases hb11 : (inR a_1.Bit 0 727)
            · replace h := ifF h (booF hb11); conv => lhs; whnf
              try (rw [hb11]; conv => lhs; whnf)
              try (rw [hb11]; conv => lhs; whnf)
              try (rw [hb11]; conv => lhs; whnf)
              obtain rfl := Option.some.inj h; show _ = _; kernel_rfl

            · replace h := ifT h hb11; conv => lhs; whnf
              try (rw [hb11]; conv => lhs; whnf)
              try (rw [hb11]; conv => lhs; whnf)
              try (rw [hb11]; conv => lhs; whnf)
              obtain rfl := Option.some.inj h; show _ = _; kernel_rfl

      · replace h := ifT h (beqT hb6); conv => lhs; whnf
        cases hb7 : (inR a_1.Block 0 (IntKind.i64.wrap ((IntKind.i64.wrap (a_0.Dies * a_0.Blocks)) - 1)))
        · replace h := ifF h (booF hb7); conv => lhs; whnf
          try (rw [hb7]; conv => lhs; whnf)
          obtain rfl := Option.some.inj h; show _ = _; kernel_rfl

        · replace h := ifT h hb7; conv => lhs; whnf
          try (rw [hb7]; conv => lhs; whnf)
          cases hb8 : (inR a_1.Page 0 (IntKind.i64.wrap (a_0.Pages - 1)))
          · replace h := ifF h (booF hb8); conv => lhs; whnf
            try (rw [hb8]; conv => lhs; whnf)
            obtain rfl := Option.some.inj h; show _ = _; kernel_rfl

          · replace h := ifT h hb8; conv => lhs; whnf
            try (rw [hb8]; conv => lhs; whnf)
            obtain rfl := Option.some.inj h; show _ = _; kernel_rfl

    · replace h := ifT h (beqT hb3); conv => lhs; whnf
      try (rw [hb3]; conv => lhs; whnf)
      cases hb4 : (inR a_1.Block 0 (IntKind.i64.wrap ((IntKind.i64.wrap (a_0.Dies * a_0.Blocks)) - 1)))
      · replace h := ifF h (booF hb4); conv => lhs; whnf
        try (rw [hb4]; conv => lhs; whnf)
        obtain rfl := Option.some.inj h; show _ = _; kernel_rfl

      · replace h := ifT h hb4; conv => lhs; whnf
        try (rw [hb4]; conv => lhs; whnf)
        cases hb5 : (inR a_1.Page 0 (IntKind.i64.wrap (a_0.Pages - 1)))
        · replace h := ifF h (booF hb5); conv => lhs; whnf
          try (rw [hb5]; conv => lhs; whnf)
          obtain rfl := Option.some.inj h; show _ = _; kernel_rfl

        · replace h := ifT h hb5; conv => lhs; whnf
          try (rw [hb5]; conv => lhs; whnf)
          obtain rfl := Option.some.inj h; show _ = _; kernel_rfl


noncomputable def p_spec_l08Script (a_0 : Geometry) (a_1 : List Fault) : Option Bool :=
  callK (p_spec_ValidGeometry a_0) fun y1 =>
  if y1 = true then
    if (a_1.length : Int) > 40 then
      some false
    else
      grd (a_1.length < 4611686018427387904) <|
      forK a_1 (fun (i9 : Nat) x11 (_ : Unit) (nx10 : Unit → Option _) =>
        callK (p_spec_ValidFault a_0 x11) fun y12 =>
        if y12 = true then
          nx10 ()
        else
          some false) () (fun (_ : Unit) =>
        some true)
  else
    some false

set_option maxHeartbeats 4000000 in
theorem L_spec_l08Script (a_0 : Geometry) (a_1 : List Fault) {r : Bool} (h : p_spec_l08Script a_0 a_1 = some r) : callL E 111 [.agg [IN a_0.Dies, IN a_0.Blocks, IN a_0.Pages], .d (.arr (a_1.map rFault))] ([] : Fo) = some (BO r, ([] : Fo)) := by
  unfold p_spec_l08Script at h
  refine callW (fu := Try.f111) rfl rfl rfl NN ?_
  intro lp cl hlp hcl
  conv => lhs; whnf
  obtain ⟨y1, h_y1, h⟩ := callK_inv h
  rw [cl_eq hcl (L_spec_ValidGeometry a_0 h_y1)]
  rotate_left
  · show _ = _; kernel_rfl
  · show _ = _; kernel_rfl
  conv => lhs; whnf
  cases hb2 : y1
  · replace h := ifF h (booF hb2); conv => lhs; whnf
    try (rw [hb2]; conv => lhs; whnf)
    try (rw [hb2]; conv => lhs; whnf)
    try (rw [hb2]; conv => lhs; whnf)
    obtain rfl := Option.some.inj h; show _ = _; kernel_rfl

  · replace h := ifT h hb2
    try rw [hb2] at h
    conv => lhs; whnf
    try (rw [hb2]; conv => lhs; whnf)
    try rw [len_of (l := a_1) (r := rFault)]
    try (rw [hb2]; conv => lhs; whnf)
    try (rw [hb2]; conv => lhs; whnf)
    cases hb3 : (decide ((a_1.length : Int) > 40))
    · replace h := ifF h (decF hb3); conv => lhs; whnf
      obtain ⟨hl_i9, h⟩ := grd_inv h
      refine loop_for hlp (l := a_1) hl_i9 (fun (i9 : Nat) (_ : Unit) => ([.dead, .d (.arr (a_1.map rFault)), .bp 0 0, .dead, .dead, IN (i9 : Int)] ++ List.replicate 21 .dead : List V)) (fun (i9 : Nat) (_ : Unit) => ([some (.box [IN a_0.Dies, IN a_0.Blocks, IN a_0.Pages])] : Fo)) (fun (r : Bool) => ((BO r : V), ([] : Fo))) ?_ ?_ () _ (fun kk => by kernel_rfl) h
      · clear h
        rintro next_nx10 nx10 i9 hi_i9 hnx10 ⟨⟩ r h
        try dsimp only at h
        have hn_i9 : i9 < 4611686018427387904 := by omega
        have hx_x11 := get_map rFault a_1 i9 hi_i9
        generalize a_1[i9] = x11 at h hx_x11
        have hd_i9 : (decide ((i9 : Int) < (a_1.length : Int))) = true := decide_eq_true (by omega)
        conv => lhs; whnf
        try rw [len_of (l := a_1) (r := rFault)]
        try (first | rw [hd_i9] | (split; (first | (rename_i hx; exact absurd (hd_i9.symm.trans hx) (by decide)) | (rotate_left; rename_i hx; exact absurd (hd_i9.symm.trans hx) (by decide)))))
        conv => lhs; whnf
        try (rw [decide_eq_true hq_x11]; conv => lhs; whnf)
        rw [hx_x11]
        conv => lhs; whnf
        rw [hx_x11]
        conv => lhs; whnf
        obtain ⟨y12, h_y12, h⟩ := callK_inv h
        rw [cl_eq hcl (L_spec_ValidFault a_0 x11 h_y12)]
        rotate_left
        · show _ = _; kernel_rfl
        · show _ = _; kernel_rfl
        conv => lhs; whnf
        cases hb13 : y12
        · replace h := ifF h (booF hb13); conv => lhs; whnf
          obtain rfl := Option.some.inj h; show _ = _; kernel_rfl

        · replace h := ifT h hb13; conv => lhs; whnf
          rw [wrap_nat i9 (by have := hn_i9; omega)]
          exact hnx10 _ _ _ _ (fun kk => by kernel_rfl) h
      · clear h
        rintro next_nx10 ⟨⟩ r h
        try dsimp only at h
        have hd_i9 : (decide ((a_1.length : Int) < (a_1.length : Int))) = false := decide_eq_false (by omega)
        conv => lhs; whnf
        try rw [len_of (l := a_1) (r := rFault)]
        try (first | rw [hd_i9] | (split; (first | (rename_i hx; exact absurd (hd_i9.symm.trans hx) (by decide)) | (rotate_left; rename_i hx; exact absurd (hd_i9.symm.trans hx) (by decide)))))
        conv => lhs; whnf
        obtain rfl := Option.some.inj h; show _ = _; kernel_rfl

    · replace h := ifT h (decT hb3); conv => lhs; whnf
      obtain rfl := Option.some.inj h; show _ = _; kernel_rfl


noncomputable def p_spec_l08Cuts (a_0 : List Fault) : Option Bool :=
  grd (a_0.length < 4611686018427387904) <|
  forK a_0 (fun (i5 : Nat) x7 (_ : Unit) (nx6 : Unit → Option _) =>
    if x7.Kind = 5 then
      some true
    else
      nx6 ()) () (fun (_ : Unit) =>
    some false)

set_option maxHeartbeats 4000000 in
theorem L_spec_l08Cuts (a_0 : List Fault) {r : Bool} (h : p_spec_l08Cuts a_0 = some r) : callL E 112 [.d (.arr (a_0.map rFault))] ([] : Fo) = some (BO r, ([] : Fo)) := by
  unfold p_spec_l08Cuts at h
  refine callW (fu := Try.f112) rfl rfl rfl NN ?_
  intro lp cl hlp hcl
  conv => lhs; whnf
  obtain ⟨hl_i5, h⟩ := grd_inv h
  refine loop_for hlp (l := a_0) hl_i5 (fun (i5 : Nat) (_ : Unit) => ([.d (.arr (a_0.map rFault)), .dead, .dead, IN (i5 : Int)] ++ List.replicate 12 .dead : List V)) (fun (i5 : Nat) (_ : Unit) => ([] : Fo)) (fun (r : Bool) => ((BO r : V), ([] : Fo))) ?_ ?_ () _ (fun kk => by kernel_rfl) h
  · clear h
    rintro next_nx6 nx6 i5 hi_i5 hnx6 ⟨⟩ r h
    try dsimp only at h
    have hn_i5 : i5 < 4611686018427387904 := by omega
    have hx_x7 := get_map rFault a_0 i5 hi_i5
    generalize a_0[i5] = x7 at h hx_x7
    have hd_i5 : (decide ((i5 : Int) < (a_0.length : Int))) = true := decide_eq_true (by omega)
    conv => lhs; whnf
    try rw [len_of (l := a_0) (r := rFault)]
    try (first | rw [hd_i5] | (split; (first | (rename_i hx; exact absurd (hd_i5.symm.trans hx) (by decide)) | (rotate_left; rename_i hx; exact absurd (hd_i5.symm.trans hx) (by decide)))))
    conv => lhs; whnf
    try (rw [decide_eq_true hq_x7]; conv => lhs; whnf)
    rw [hx_x7]
    conv => lhs; whnf
    rw [hx_x7]
    conv => lhs; whnf
    cases hb8 : (x7.Kind == 5)
    · replace h := ifF h (beqF hb8); conv => lhs; whnf
      rw [wrap_nat i5 (by have := hn_i5; omega)]
      exact hnx6 _ _ _ _ (fun kk => by kernel_rfl) h
    · replace h := ifT h (beqT hb8); conv => lhs; whnf
      obtain rfl := Option.some.inj h; show _ = _; kernel_rfl

  · clear h
    rintro next_nx6 ⟨⟩ r h
    try dsimp only at h
    have hd_i5 : (decide ((a_0.length : Int) < (a_0.length : Int))) = false := decide_eq_false (by omega)
    conv => lhs; whnf
    try rw [len_of (l := a_0) (r := rFault)]
    try (first | rw [hd_i5] | (split; (first | (rename_i hx; exact absurd (hd_i5.symm.trans hx) (by decide)) | (rotate_left; rename_i hx; exact absurd (hd_i5.symm.trans hx) (by decide)))))
    conv => lhs; whnf
    obtain rfl := Option.some.inj h; show _ = _; kernel_rfl


noncomputable def p_spec_l15Own (a_0 : Flash) : Option (List Block) :=
  grd (a_0.Blocks.length < 4611686018427387904) <|
  forK a_0.Blocks (fun (i5 : Nat) x8 (v6 : List Block) (nx7 : (List Block) → Option _) =>
    grd (appOk (0 + x8.Pages.length) 16 = true) <|
    grd (appOk (v6.length + 1) 48 = true) <|
    nx7 (v6 ++ ([x8] : List Block))) ([] : List Block) (fun (v6 : List Block) =>
    some v6)

set_option maxHeartbeats 4000000 in
theorem L_spec_l15Own (a_0 : Flash) {r : (List Block)} (h : p_spec_l15Own a_0 = some r) : callL E 113 [.agg [IN a_0.Geo.Dies, IN a_0.Geo.Blocks, IN a_0.Geo.Pages, .d (.arr (a_0.Blocks.map rBlock)), IN a_0.Fuse, IN a_0.Keep, BO a_0.Off, IN a_0.Ops]] ([] : Fo) = some (.agg [IN a_0.Geo.Dies, IN a_0.Geo.Blocks, IN a_0.Geo.Pages, .nsl 0, IN a_0.Fuse, IN a_0.Keep, BO a_0.Off, IN a_0.Ops], ([some (.nst ⟨91, 4, 3, 9, 1⟩ r.length (r.map rBlock))] : Fo)) := by
  unfold p_spec_l15Own at h
  refine callW (fu := Try.f113) rfl rfl rfl NN ?_
  intro lp cl hlp hcl
  conv => lhs; whnf
  obtain ⟨hl_i5, h⟩ := grd_inv h
  refine loop_for hlp (l := a_0.Blocks) hl_i5 (fun (i5 : Nat) (v6 : List Block) => ([.dead, .bp 0 0, .bp 1 0, .bp 2 0, IN (i5 : Int)] ++ List.replicate 28 .dead : List V)) (fun (i5 : Nat) (v6 : List Block) => ([some (.box [IN a_0.Geo.Dies, IN a_0.Geo.Blocks, IN a_0.Geo.Pages, .d (.arr (a_0.Blocks.map rBlock)), IN a_0.Fuse, IN a_0.Keep, BO a_0.Off, IN a_0.Ops]), some (.box [IN 0, IN 0, IN 0, .d (.arr (([] : List Block).map rBlock)), IN 0, IN 0, BO false, IN 0]), some (.box [IN a_0.Geo.Dies, IN a_0.Geo.Blocks, IN a_0.Geo.Pages, .nsl 3, IN a_0.Fuse, IN a_0.Keep, BO a_0.Off, IN a_0.Ops]), some (.nst ⟨91, 4, 3, 9, 1⟩ v6.length (v6.map rBlock))] : Fo)) (fun (r : (List Block)) => ((.agg [IN a_0.Geo.Dies, IN a_0.Geo.Blocks, IN a_0.Geo.Pages, .nsl 0, IN a_0.Fuse, IN a_0.Keep, BO a_0.Off, IN a_0.Ops] : V), ([some (.nst ⟨91, 4, 3, 9, 1⟩ r.length (r.map rBlock))] : Fo))) ?_ ?_ ([] : List Block) _ (fun kk => by kernel_rfl) h
  · clear h
    rintro next_nx7 nx7 i5 hi_i5 hnx7 v6 r h
    try dsimp only at h
    have hn_i5 : i5 < 4611686018427387904 := by omega
    have hx_x8 := get_map rBlock a_0.Blocks i5 hi_i5
    generalize a_0.Blocks[i5] = x8 at h hx_x8
    have hd_i5 : (decide ((i5 : Int) < (a_0.Blocks.length : Int))) = true := decide_eq_true (by omega)
    conv => lhs; whnf
    try rw [len_of (l := a_0.Blocks) (r := rBlock)]
    try (first | rw [hd_i5] | (split; (first | (rename_i hx; exact absurd (hd_i5.symm.trans hx) (by decide)) | (rotate_left; rename_i hx; exact absurd (hd_i5.symm.trans hx) (by decide)))))
    conv => lhs; whnf
    try (rw [decide_eq_true hq_x8]; conv => lhs; whnf)
    rw [hx_x8]
    conv => lhs; whnf
    rw [hx_x8]
    conv => lhs; whnf
    obtain ⟨hg9, h⟩ := grd_inv h
    rw [app_eq hg9 ?h1 ?h2]
    case h1 => first | exact rfl | (simp only [List.length_map, List.length_cons, List.length_nil]; done) | (rw [List.length_map]; rfl)
    case h2 => exact rfl
    conv => lhs; whnf
    rw [allLen_map rS _ rS_len]
    conv => lhs; whnf
    first | (rw [nil_app_of (r := rS) (m := x8.Pages) ?hh]; case hh => exact rfl) | skip
    conv => lhs; whnf
    try (rw [beq_len (n := v6.length) (l := v6) (by simp only [List.length_set, List.length_append, List.length_cons, List.length_nil, Nat.zero_add])]; conv => lhs; whnf)
    obtain ⟨hg10, h⟩ := grd_inv h
    rw [app_eq hg10 ?h1 ?h2]
    case h1 => first | exact rfl | (rw [List.length_map]; done) | (rw [List.length_map]; rfl)
    case h2 => exact rfl
    conv => lhs; whnf
    first | (rw [map_app_of (r := rBlock) (l := v6) (m := ([x8] : List Block)) ?hh]; case hh => exact rfl) | skip
    rw [wrap_nat i5 (by have := hn_i5; omega)]
    exact hnx7 _ _ _ _ (fun kk => by (try simp only [List.length_set, List.length_append, List.length_cons, List.length_nil, Nat.zero_add]); kernel_rfl) h
  · clear h
    rintro next_nx7 v6 r h
    try dsimp only at h
    have hd_i5 : (decide ((a_0.Blocks.length : Int) < (a_0.Blocks.length : Int))) = false := decide_eq_false (by omega)
    conv => lhs; whnf
    try rw [len_of (l := a_0.Blocks) (r := rBlock)]
    try (first | rw [hd_i5] | (split; (first | (rename_i hx; exact absurd (hd_i5.symm.trans hx) (by decide)) | (rotate_left; rename_i hx; exact absurd (hd_i5.symm.trans hx) (by decide)))))
    conv => lhs; whnf
    obtain rfl := Option.some.inj h; show _ = _; kernel_rfl


noncomputable def p_spec_FlipPageBit (a_0 : ByteArray) (a_1 : Int) : Option (ByteArray × Int) :=
  if ¬ (ByteArray.size a_0 : Int) = 91 then
    some ((⟨#[]⟩ : ByteArray), 1)
  else
    if (inR a_1 0 727) = true then
      grd (appOk (ByteArray.size a_0) 1 = true) <|
      getK (bytesL a_0) (IntKind.i64.wrap (Int.tdiv a_1 8)) fun x3 =>
      grd (0 ≤ (IntKind.u64.wrap (Int.tmod a_1 8))) <|
      some ((bytesOf (((bytesL a_0).set (Int.toNat (IntKind.i64.wrap (Int.tdiv a_1 8))) (xorK .u8 x3 (IntKind.u8.wrap (1 * 2 ^ (min (Int.toNat (IntKind.u64.wrap (Int.tmod a_1 8))) IntKind.u8.bits))))).map rU)), 0)
    else
      some ((⟨#[]⟩ : ByteArray), 2)

set_option maxHeartbeats 4000000 in
theorem L_spec_FlipPageBit (a_0 : ByteArray) (a_1 : Int) {r : (ByteArray × Int)} (h : p_spec_FlipPageBit a_0 a_1 = some r) : callL E 238 [ST a_0, IN a_1] ([] : Fo) = some (.tup [ST r.1, IN r.2], ([] : Fo)) := by
  unfold p_spec_FlipPageBit at h
  refine callW (fu := Try.f238) rfl rfl rfl NN ?_
  intro lp cl hlp hcl
  conv => lhs; whnf
  cases hb1 : ((ByteArray.size a_0 : Int) != 91)
  · replace h := ifF h ((fun h => not_not_intro (bneF h)) hb1); conv => lhs; whnf
    rw [cl_eq hcl (L_spec_l00In a_1 0 727 (pl_l00In a_1 0 727))]
    rotate_left
    · show _ = _; kernel_rfl
    · show _ = _; kernel_rfl
    conv => lhs; whnf
    cases hb2 : (inR a_1 0 727)
    · replace h := ifF h (booF hb2); conv => lhs; whnf
      obtain rfl := Option.some.inj h; show _ = _; kernel_rfl

    · replace h := ifT h hb2; conv => lhs; whnf
      obtain ⟨hg4, h⟩ := grd_inv h
      rw [hg4]
      conv => lhs; whnf
      conv => lhs; whnf
      try rw [bytesL_of]
      try (rw [quo_run _ _ _ 8 (by decide)]; conv => lhs; whnf)
      conv => lhs; whnf
      try (rw [quo_run _ _ _ 8 (by decide)]; conv => lhs; whnf)
      conv => lhs; whnf
      obtain ⟨x3, hq_x3, hx_x3', h⟩ := getK_inv h
      have hx_x3 := get_of (r := rU) hx_x3'
      try (rw [decide_eq_true hq_x3]; conv => lhs; whnf)
      rw [hx_x3]
      conv => lhs; whnf
      rw [hx_x3]
      conv => lhs; whnf
      try (rw [rem_run _ _ _ 8 (by decide)]; conv => lhs; whnf)
      conv => lhs; whnf
      obtain ⟨hg5, h⟩ := grd_inv h
      try (rw [shl_run _ _ _ _ _ hg5]; conv => lhs; whnf)
      conv => lhs; whnf
      try (rw [decide_eq_true hq_x3]; conv => lhs; whnf)
      rw [hx_x3]
      conv => lhs; whnf
      rw [hx_x3]
      conv => lhs; whnf
      first | (rw [map_set_of (r := rU) (l := (bytesL a_0)) (x := (xorK .u8 x3 (IntKind.u8.wrap (1 * 2 ^ (min (Int.toNat (IntKind.u64.wrap (Int.tmod a_1 8))) IntKind.u8.bits))))) ?hh]; case hh => exact rfl) | skip
      try rw [byteRows_rU]
      conv => lhs; whnf
      obtain rfl := Option.some.inj h; show _ = _; kernel_rfl

  · replace h := ifT h (bneT hb1); conv => lhs; whnf
    obtain rfl := Option.some.inj h; show _ = _; kernel_rfl


noncomputable def p_spec_l08Flip (a_0 : Int) (a_1 : Int) (a_2 : Int) (a_3 : Int) (a_4 : Int) (a_5 : Bool) (a_6 : Int) (a_7 : Int) (a_8 : Int) (a_9 : Int) (a_10 : List Block) : Option (List Block) :=
  getK a_10 a_7 fun x1 =>
  if a_8 ≥ x1.Next then
    some a_10
  else
    getK x1.Pages a_8 fun x3 =>
    if (x3.toList == (⟨#[]⟩ : ByteArray).toList) = true then
      some a_10
    else
      callK (p_spec_FlipPageBit x3 a_9) fun y5 =>
      some (a_10.set (Int.toNat a_7) (⟨x1.Erases, x1.Next, x1.Bad, (x1.Pages.set (Int.toNat a_8) y5.1)⟩ : Block))

set_option maxHeartbeats 4000000 in
theorem L_spec_l08Flip (a_0 : Int) (a_1 : Int) (a_2 : Int) (a_3 : Int) (a_4 : Int) (a_5 : Bool) (a_6 : Int) (a_7 : Int) (a_8 : Int) (a_9 : Int) (a_10 : List Block) {r : (List Block)} (h : p_spec_l08Flip a_0 a_1 a_2 a_3 a_4 a_5 a_6 a_7 a_8 a_9 a_10 = some r) : callL E 196 [.agg [IN a_0, IN a_1, IN a_2, .nsl 0, IN a_3, IN a_4, BO a_5, IN a_6], IN a_7, IN a_8, IN a_9] ([some (.nst ⟨91, 4, 3, 9, 1⟩ a_10.length (a_10.map rBlock))] : Fo) = some (.tup [], ([some (.nst ⟨91, 4, 3, 9, 1⟩ r.length (r.map rBlock))] : Fo)) := by
  unfold p_spec_l08Flip at h
  refine callW (fu := Try.f196) rfl rfl rfl NN ?_
  intro lp cl hlp hcl
  conv => lhs; whnf
  obtain ⟨x1, hq_x1, hx_x1', h⟩ := getK_inv h
  have hx_x1 := get_of (r := rBlock) hx_x1'
  try (rw [decide_eq_true hq_x1]; conv => lhs; whnf)
  rw [hx_x1]
  conv => lhs; whnf
  rw [hx_x1]
  conv => lhs; whnf
  cases hb2 : (decide (a_8 ≥ x1.Next))
  · replace h := ifF h (decF hb2); conv => lhs; whnf
    try (rw [hb2]; conv => lhs; whnf)
    try (rw [hb2]; conv => lhs; whnf)
    try (rw [hb2]; conv => lhs; whnf)
    rw [hx_x1]
    conv => lhs; whnf
    conv => lhs; whnf
    try (rw [blt_of_len (n := a_10.length) hx_x1 (by simp only [List.length_set, List.length_append, List.length_cons, List.length_nil, Nat.zero_add])]; conv => lhs; whnf)
    try (rw [hb2]; conv => lhs; whnf)
    try (rw [hb2]; conv => lhs; whnf)
    rw [hx_x1]
    conv => lhs; whnf
    obtain ⟨x3, hq_x3, hx_x3', h⟩ := getK_inv h
    have hx_x3 := get_of (r := rS) hx_x3'
    try (rw [decide_eq_true hq_x3]; conv => lhs; whnf)
    rw [hx_x3]
    conv => lhs; whnf
    try (rw [hb2]; conv => lhs; whnf)
    rw [hx_x1]
    conv => lhs; whnf
    rw [hx_x3]
    conv => lhs; whnf
    try (rw [hb2]; conv => lhs; whnf)
    try (rw [hb2]; conv => lhs; whnf)
    cases hb4 : (x3.toList == (⟨#[]⟩ : ByteArray).toList)
    · replace h := ifF h (booF hb4); conv => lhs; whnf
      rw [hx_x1]
      conv => lhs; whnf
      conv => lhs; whnf
      try (rw [blt_of_len (n := a_10.length) hx_x1 (by simp only [List.length_set, List.length_append, List.length_cons, List.length_nil, Nat.zero_add])]; conv => lhs; whnf)
      rw [hx_x1]
      conv => lhs; whnf
      try (rw [decide_eq_true hq_x3]; conv => lhs; whnf)
      rw [hx_x3]
      conv => lhs; whnf
      rw [hx_x1]
      conv => lhs; whnf
      rw [hx_x3]
      conv => lhs; whnf
      obtain ⟨y5, h_y5, h⟩ := callK_inv h
      rw [cl_eq hcl (L_spec_FlipPageBit x3 a_9 h_y5)]
      rotate_left
      · show _ = _; kernel_rfl
      · show _ = _; kernel_rfl
      conv => lhs; whnf
      rw [hx_x1]
      conv => lhs; whnf
      conv => lhs; whnf
      try (rw [blt_of_len (n := a_10.length) hx_x1 (by simp only [List.length_set, List.length_append, List.length_cons, List.length_nil, Nat.zero_add])]; conv => lhs; whnf)
      rw [hx_x1]
      conv => lhs; whnf
      try (rw [decide_eq_true hq_x3]; conv => lhs; whnf)
      rw [hx_x3]
      conv => lhs; whnf
      rw [hx_x1]
      conv => lhs; whnf
      rw [hx_x3]
      conv => lhs; whnf
      first | (rw [map_set_of (r := rS) (l := x1.Pages) (x := y5.1) ?hh]; case hh => exact rfl) | skip
      first | (rw [map_set_of (r := rBlock) (l := a_10) (x := (⟨x1.Erases, x1.Next, x1.Bad, (x1.Pages.set (Int.toNat a_8) y5.1)⟩ : Block)) ?hh]; case hh => exact rfl) | skip
      obtain rfl := Option.some.inj h
      try (conv => rhs; simp only [List.length_set, List.length_append, List.length_cons, List.length_nil, Nat.zero_add])
      try simp only [List.length_set]
      show _ = _; kernel_rfl
    · replace h := ifT h hb4; conv => lhs; whnf
      obtain rfl := Option.some.inj h; show _ = _; kernel_rfl

  · replace h := ifT h (decT hb2); conv => lhs; whnf
    try (rw [hb2]; conv => lhs; whnf)
    try (rw [hb2]; conv => lhs; whnf)
    try (rw [hb2]; conv => lhs; whnf)
    try (rw [hb2]; conv => lhs; whnf)
    try (rw [hb2]; conv => lhs; whnf)
    try (rw [hb2]; conv => lhs; whnf)
    try (rw [hb2]; conv => lhs; whnf)
    try (rw [hb2]; conv => lhs; whnf)
    obtain rfl := Option.some.inj h; show _ = _; kernel_rfl


noncomputable def p_spec_l08Apply (a_0 : Int) (a_1 : Int) (a_2 : Int) (a_3 : Int) (a_4 : Int) (a_5 : Bool) (a_6 : Int) (a_7 : Fault) (a_8 : List Block) : Option (Int × Int × (List Block)) :=
  if a_7.Kind = 1 then
    callK (p_spec_l08Flip a_0 a_1 a_2 a_3 a_4 a_5 a_6 a_7.Block a_7.Page a_7.Bit a_8) fun y2 =>
    some (a_3, a_4, y2)
  else
    if a_7.Kind = 2 then
      grd (a_2 < 4611686018427387904) <|
      forI a_2 (fun (i9 : Nat) (v10 : List Block) (nx11 : (List Block) → Option _) =>
        if ¬ (i9 : Int) = a_7.Page then
          callK (p_spec_l08Flip a_0 a_1 a_2 a_3 a_4 a_5 a_6 a_7.Block (i9 : Int) a_7.Bit v10) fun y13 =>
          nx11 y13
        else
          nx11 v10) a_8 (fun (v10 : List Block) =>
        some (a_3, a_4, v10))
    else
      if a_7.Kind = 3 then
        grd (a_2 < 4611686018427387904) <|
        forI a_2 (fun (i19 : Nat) (v20 : List Block) (nx21 : (List Block) → Option _) =>
          callK (p_spec_l08Flip a_0 a_1 a_2 a_3 a_4 a_5 a_6 a_7.Block (i19 : Int) (Int.tmod (IntKind.i64.wrap (a_7.Bit + (IntKind.i64.wrap (8 * (i19 : Int))))) 728) v20) fun y22 =>
          nx21 y22) a_8 (fun (v20 : List Block) =>
          some (a_3, a_4, v20))
      else
        if a_7.Kind = 4 then
          getK a_8 a_7.Block fun x24 =>
          some (a_3, a_4, (a_8.set (Int.toNat a_7.Block) (⟨x24.Erases, x24.Next, true, x24.Pages⟩ : Block)))
        else
          if a_7.Kind = 5 then
            some (a_7.Page, a_7.Bit, a_8)
          else
            some (a_3, a_4, a_8)

set_option maxHeartbeats 4000000 in
theorem L_spec_l08Apply (a_0 : Int) (a_1 : Int) (a_2 : Int) (a_3 : Int) (a_4 : Int) (a_5 : Bool) (a_6 : Int) (a_7 : Fault) (a_8 : List Block) {r : (Int × Int × (List Block))} (h : p_spec_l08Apply a_0 a_1 a_2 a_3 a_4 a_5 a_6 a_7 a_8 = some r) : callL E 114 [.agg [IN a_0, IN a_1, IN a_2, .nsl 0, IN a_3, IN a_4, BO a_5, IN a_6], .agg [IN a_7.Kind, IN a_7.Block, IN a_7.Page, IN a_7.Bit]] ([some (.nst ⟨91, 4, 3, 9, 1⟩ a_8.length (a_8.map rBlock))] : Fo) = some (.agg [IN a_0, IN a_1, IN a_2, .nsl 0, IN r.1, IN r.2.1, BO a_5, IN a_6], ([some (.nst ⟨91, 4, 3, 9, 1⟩ r.2.2.length (r.2.2.map rBlock))] : Fo)) := by
  unfold p_spec_l08Apply at h
  refine callW (fu := Try.f114) rfl rfl rfl NN ?_
  intro lp cl hlp hcl
  conv => lhs; whnf
  cases hb1 : (a_7.Kind == 1)
  · replace h := ifF h (beqF hb1); conv => lhs; whnf
    cases hb3 : (a_7.Kind == 2)
    · replace h := ifF h (beqF hb3); conv => lhs; whnf
      cases hb14 : (a_7.Kind == 3)
      · replace h := ifF h (beqF hb14); conv => lhs; whnf
        cases hb23 : (a_7.Kind == 4)
        · replace h := ifF h (beqF hb23); conv => lhs; whnf
          cases hb25 : (a_7.Kind == 5)
          · replace h := ifF h (beqF hb25); conv => lhs; whnf
            obtain rfl := Option.some.inj h; show _ = _; kernel_rfl

          · replace h := ifT h (beqT hb25); conv => lhs; whnf
            obtain rfl := Option.some.inj h; show _ = _; kernel_rfl

        · replace h := ifT h (beqT hb23); conv => lhs; whnf
          obtain ⟨x24, hq_x24, hx_x24', h⟩ := getK_inv h
          have hx_x24 := get_of (r := rBlock) hx_x24'
          try (rw [decide_eq_true hq_x24]; conv => lhs; whnf)
          rw [hx_x24]
          conv => lhs; whnf
          rw [hx_x24]
          conv => lhs; whnf
          first | (rw [map_set_of (r := rBlock) (l := a_8) (x := (⟨x24.Erases, x24.Next, true, x24.Pages⟩ : Block)) ?hh]; case hh => exact rfl) | skip
          obtain rfl := Option.some.inj h
          try (conv => rhs; simp only [List.length_set, List.length_append, List.length_cons, List.length_nil, Nat.zero_add])
          try simp only [List.length_set]
          show _ = _; kernel_rfl
      · replace h := ifT h (beqT hb14); conv => lhs; whnf
        obtain ⟨hl_i19, h⟩ := grd_inv h
        refine loop_forI hlp (n := a_2) hl_i19 (fun (i19 : Nat) (v20 : List Block) => ([.dead, .dead, .bp 1 0, .bp 2 0, .bp 3 0, .dead, IN (i19 : Int)] ++ List.replicate 69 .dead : List V)) (fun (i19 : Nat) (v20 : List Block) => ([some (.nst ⟨91, 4, 3, 9, 1⟩ v20.length (v20.map rBlock)), some (.box [IN a_0, IN a_1, IN a_2, .nsl 0, IN a_3, IN a_4, BO a_5, IN a_6]), some (.box [IN a_7.Kind, IN a_7.Block, IN a_7.Page, IN a_7.Bit]), some (.box [IN 0, IN 0, IN 0, .d (.arr (([] : List Block).map rBlock)), IN 0, IN 0, BO false, IN 0])] : Fo)) (fun (r : (Int × Int × (List Block))) => ((.agg [IN a_0, IN a_1, IN a_2, .nsl 0, IN r.1, IN r.2.1, BO a_5, IN a_6] : V), ([some (.nst ⟨91, 4, 3, 9, 1⟩ r.2.2.length (r.2.2.map rBlock))] : Fo))) ?_ ?_ a_8 _ (fun kk => by kernel_rfl) h
        · clear h
          rintro next_nx21 nx21 i19 hi_i19 hnx21 v20 r h
          try dsimp only at h
          have hn_i19 : i19 < 4611686018427387904 := by omega
          have hd_i19 : (decide ((i19 : Int) < a_2)) = true := decide_eq_true (by omega)
          conv => lhs; whnf
          try (first | rw [hd_i19] | (split; (first | (rename_i hx; exact absurd (hd_i19.symm.trans hx) (by decide)) | (rotate_left; rename_i hx; exact absurd (hd_i19.symm.trans hx) (by decide)))))
          conv => lhs; whnf
          try (rw [rem_run _ _ _ 728 (by decide)]; conv => lhs; whnf)
          conv => lhs; whnf
          obtain ⟨y22, h_y22, h⟩ := callK_inv h
          rw [cl_eq hcl (L_spec_l08Flip a_0 a_1 a_2 a_3 a_4 a_5 a_6 a_7.Block (i19 : Int) (Int.tmod (IntKind.i64.wrap (a_7.Bit + (IntKind.i64.wrap (8 * (i19 : Int))))) 728) v20 h_y22)]
          rotate_left
          · show _ = _; kernel_rfl
          · show _ = _; kernel_rfl
          conv => lhs; whnf
          rw [wrap_nat i19 (by have := hn_i19; omega)]
          exact hnx21 _ _ _ _ (fun kk => by kernel_rfl) h
        · clear h
          rintro next_nx21 v20 r h
          try dsimp only at h
          have hd_i19 : (decide (((Int.toNat a_2) : Int) < a_2)) = false := decide_eq_false (by omega)
          conv => lhs; whnf
          try (first | rw [hd_i19] | (split; (first | (rename_i hx; exact absurd (hd_i19.symm.trans hx) (by decide)) | (rotate_left; rename_i hx; exact absurd (hd_i19.symm.trans hx) (by decide)))))
          conv => lhs; whnf
          obtain rfl := Option.some.inj h; show _ = _; kernel_rfl

    · replace h := ifT h (beqT hb3); conv => lhs; whnf
      obtain ⟨hl_i9, h⟩ := grd_inv h
      refine loop_forI hlp (n := a_2) hl_i9 (fun (i9 : Nat) (v10 : List Block) => ([.dead, .dead, .bp 1 0, .bp 2 0, .bp 3 0, IN (i9 : Int)] ++ List.replicate 70 .dead : List V)) (fun (i9 : Nat) (v10 : List Block) => ([some (.nst ⟨91, 4, 3, 9, 1⟩ v10.length (v10.map rBlock)), some (.box [IN a_0, IN a_1, IN a_2, .nsl 0, IN a_3, IN a_4, BO a_5, IN a_6]), some (.box [IN a_7.Kind, IN a_7.Block, IN a_7.Page, IN a_7.Bit]), some (.box [IN 0, IN 0, IN 0, .d (.arr (([] : List Block).map rBlock)), IN 0, IN 0, BO false, IN 0])] : Fo)) (fun (r : (Int × Int × (List Block))) => ((.agg [IN a_0, IN a_1, IN a_2, .nsl 0, IN r.1, IN r.2.1, BO a_5, IN a_6] : V), ([some (.nst ⟨91, 4, 3, 9, 1⟩ r.2.2.length (r.2.2.map rBlock))] : Fo))) ?_ ?_ a_8 _ (fun kk => by kernel_rfl) h
      · clear h
        rintro next_nx11 nx11 i9 hi_i9 hnx11 v10 r h
        try dsimp only at h
        have hn_i9 : i9 < 4611686018427387904 := by omega
        have hd_i9 : (decide ((i9 : Int) < a_2)) = true := decide_eq_true (by omega)
        conv => lhs; whnf
        try (first | rw [hd_i9] | (split; (first | (rename_i hx; exact absurd (hd_i9.symm.trans hx) (by decide)) | (rotate_left; rename_i hx; exact absurd (hd_i9.symm.trans hx) (by decide)))))
        conv => lhs; whnf
        cases hb12 : ((i9 : Int) != a_7.Page)
        · replace h := ifF h ((fun h => not_not_intro (bneF h)) hb12); conv => lhs; whnf
          rw [wrap_nat i9 (by have := hn_i9; omega)]
          exact hnx11 _ _ _ _ (fun kk => by kernel_rfl) h
        · replace h := ifT h (bneT hb12); conv => lhs; whnf
          obtain ⟨y13, h_y13, h⟩ := callK_inv h
          rw [cl_eq hcl (L_spec_l08Flip a_0 a_1 a_2 a_3 a_4 a_5 a_6 a_7.Block (i9 : Int) a_7.Bit v10 h_y13)]
          rotate_left
          · show _ = _; kernel_rfl
          · show _ = _; kernel_rfl
          conv => lhs; whnf
          rw [wrap_nat i9 (by have := hn_i9; omega)]
          exact hnx11 _ _ _ _ (fun kk => by kernel_rfl) h
      · clear h
        rintro next_nx11 v10 r h
        try dsimp only at h
        have hd_i9 : (decide (((Int.toNat a_2) : Int) < a_2)) = false := decide_eq_false (by omega)
        conv => lhs; whnf
        try (first | rw [hd_i9] | (split; (first | (rename_i hx; exact absurd (hd_i9.symm.trans hx) (by decide)) | (rotate_left; rename_i hx; exact absurd (hd_i9.symm.trans hx) (by decide)))))
        conv => lhs; whnf
        obtain rfl := Option.some.inj h; show _ = _; kernel_rfl

  · replace h := ifT h (beqT hb1); conv => lhs; whnf
    obtain ⟨y2, h_y2, h⟩ := callK_inv h
    rw [cl_eq hcl (L_spec_l08Flip a_0 a_1 a_2 a_3 a_4 a_5 a_6 a_7.Block a_7.Page a_7.Bit a_8 h_y2)]
    rotate_left
    · show _ = _; kernel_rfl
    · show _ = _; kernel_rfl
    conv => lhs; whnf
    obtain rfl := Option.some.inj h; show _ = _; kernel_rfl


noncomputable def p_spec_ApplyFaults (a_0 : Flash) (a_1 : List Fault) : Option (Flash × Int) :=
  callK (p_spec_ValidFlash a_0) fun y1 =>
  if y1 = true then
    callK (p_spec_l08Script a_0.Geo a_1) fun y3 =>
    if y3 = true then
      if a_0.Off = true then
        callK (p_spec_l08Cuts a_1) fun y6 =>
        if y6 = true then
          some ((⟨⟨0, 0, 0⟩, ([] : List Block), 0, 0, false, 0⟩ : Flash), 8)
        else
          callK (p_spec_l15Own (⟨a_0.Geo, a_0.Blocks, a_0.Fuse, a_0.Keep, true, a_0.Ops⟩ : Flash)) fun y8 =>
          grd (a_1.length < 4611686018427387904) <|
          forK a_1 (fun (i21 : Nat) x31 ((v22, v23, v24, v25, v26, v27, v28, v29) : (Int × Int × Int × Int × Int × Bool × Int × (List Block))) (nx30 : (Int × Int × Int × Int × Int × Bool × Int × (List Block)) → Option _) =>
            callK (p_spec_l08Apply v22 v23 v24 v25 v26 v27 v28 x31 v29) fun y32 =>
            nx30 (v22, v23, v24, y32.1, y32.2.1, v27, v28, y32.2.2)) ((⟨a_0.Geo, a_0.Blocks, a_0.Fuse, a_0.Keep, true, a_0.Ops⟩ : Flash).Geo.Dies, (⟨a_0.Geo, a_0.Blocks, a_0.Fuse, a_0.Keep, true, a_0.Ops⟩ : Flash).Geo.Blocks, (⟨a_0.Geo, a_0.Blocks, a_0.Fuse, a_0.Keep, true, a_0.Ops⟩ : Flash).Geo.Pages, (⟨a_0.Geo, a_0.Blocks, a_0.Fuse, a_0.Keep, true, a_0.Ops⟩ : Flash).Fuse, (⟨a_0.Geo, a_0.Blocks, a_0.Fuse, a_0.Keep, true, a_0.Ops⟩ : Flash).Keep, (⟨a_0.Geo, a_0.Blocks, a_0.Fuse, a_0.Keep, true, a_0.Ops⟩ : Flash).Off, (⟨a_0.Geo, a_0.Blocks, a_0.Fuse, a_0.Keep, true, a_0.Ops⟩ : Flash).Ops, y8) (fun ((v22, v23, v24, v25, v26, v27, v28, v29) : (Int × Int × Int × Int × Int × Bool × Int × (List Block))) =>
            some ((⟨⟨v22, v23, v24⟩, v29, v25, v26, v27, v28⟩ : Flash), 0))
      else
        callK (p_spec_l15Own (⟨a_0.Geo, a_0.Blocks, a_0.Fuse, a_0.Keep, false, a_0.Ops⟩ : Flash)) fun y33 =>
        grd (a_1.length < 4611686018427387904) <|
        forK a_1 (fun (i46 : Nat) x56 ((v47, v48, v49, v50, v51, v52, v53, v54) : (Int × Int × Int × Int × Int × Bool × Int × (List Block))) (nx55 : (Int × Int × Int × Int × Int × Bool × Int × (List Block)) → Option _) =>
          callK (p_spec_l08Apply v47 v48 v49 v50 v51 v52 v53 x56 v54) fun y57 =>
          nx55 (v47, v48, v49, y57.1, y57.2.1, v52, v53, y57.2.2)) ((⟨a_0.Geo, a_0.Blocks, a_0.Fuse, a_0.Keep, false, a_0.Ops⟩ : Flash).Geo.Dies, (⟨a_0.Geo, a_0.Blocks, a_0.Fuse, a_0.Keep, false, a_0.Ops⟩ : Flash).Geo.Blocks, (⟨a_0.Geo, a_0.Blocks, a_0.Fuse, a_0.Keep, false, a_0.Ops⟩ : Flash).Geo.Pages, (⟨a_0.Geo, a_0.Blocks, a_0.Fuse, a_0.Keep, false, a_0.Ops⟩ : Flash).Fuse, (⟨a_0.Geo, a_0.Blocks, a_0.Fuse, a_0.Keep, false, a_0.Ops⟩ : Flash).Keep, (⟨a_0.Geo, a_0.Blocks, a_0.Fuse, a_0.Keep, false, a_0.Ops⟩ : Flash).Off, (⟨a_0.Geo, a_0.Blocks, a_0.Fuse, a_0.Keep, false, a_0.Ops⟩ : Flash).Ops, y33) (fun ((v47, v48, v49, v50, v51, v52, v53, v54) : (Int × Int × Int × Int × Int × Bool × Int × (List Block))) =>
          some ((⟨⟨v47, v48, v49⟩, v54, v50, v51, v52, v53⟩ : Flash), 0))
    else
      some ((⟨⟨0, 0, 0⟩, ([] : List Block), 0, 0, false, 0⟩ : Flash), 1)
  else
    some ((⟨⟨0, 0, 0⟩, ([] : List Block), 0, 0, false, 0⟩ : Flash), 1)

set_option maxHeartbeats 4000000 in
theorem L_spec_ApplyFaults (a_0 : Flash) (a_1 : List Fault) {r : (Flash × Int)} (h : p_spec_ApplyFaults a_0 a_1 = some r) : callL E 36 [.agg [IN a_0.Geo.Dies, IN a_0.Geo.Blocks, IN a_0.Geo.Pages, .d (.arr (a_0.Blocks.map rBlock)), IN a_0.Fuse, IN a_0.Keep, BO a_0.Off, IN a_0.Ops], .d (.arr (a_1.map rFault))] ([] : Fo) = some (.tup [.agg [IN r.1.Geo.Dies, IN r.1.Geo.Blocks, IN r.1.Geo.Pages, .d (.arr (r.1.Blocks.map rBlock)), IN r.1.Fuse, IN r.1.Keep, BO r.1.Off, IN r.1.Ops], IN r.2], ([] : Fo)) := by
  unfold p_spec_ApplyFaults at h
  refine callW (fu := Try.f36) rfl rfl rfl NN ?_
  intro lp cl hlp hcl
  conv => lhs; whnf
  obtain ⟨y1, h_y1, h⟩ := callK_inv h
  rw [cl_eq hcl (L_spec_ValidFlash a_0 h_y1)]
  rotate_left
  · show _ = _; kernel_rfl
  · show _ = _; kernel_rfl
  conv => lhs; whnf
  cases hb2 : y1
  · replace h := ifF h (booF hb2); conv => lhs; whnf
    try (rw [hb2]; conv => lhs; whnf)
    try (rw [hb2]; conv => lhs; whnf)
    try (rw [hb2]; conv => lhs; whnf)
    try (rw [hb2]; conv => lhs; whnf)
    try (rw [hb2]; conv => lhs; whnf)
    obtain rfl := Option.some.inj h; show _ = _; kernel_rfl

  · replace h := ifT h hb2; conv => lhs; whnf
    try (rw [hb2]; conv => lhs; whnf)
    try (rw [hb2]; conv => lhs; whnf)
    try (rw [hb2]; conv => lhs; whnf)
    obtain ⟨y3, h_y3, h⟩ := callK_inv h
    rw [cl_eq hcl (L_spec_l08Script a_0.Geo a_1 h_y3)]
    rotate_left
    · show _ = _; kernel_rfl
    · show _ = _; kernel_rfl
    conv => lhs; whnf
    try (rw [hb2]; conv => lhs; whnf)
    try (rw [hb2]; conv => lhs; whnf)
    cases hb4 : y3
    · replace h := ifF h (booF hb4); conv => lhs; whnf
      obtain rfl := Option.some.inj h; show _ = _; kernel_rfl

    · replace h := ifT h hb4
      try rw [hb4] at h
      conv => lhs; whnf
      cases hb5 : a_0.Off
      · replace h := ifF h (booF hb5); conv => lhs; whnf
        try (rw [hb5]; conv => lhs; whnf)
        try (rw [hb5]; conv => lhs; whnf)
        obtain ⟨y33, h_y33, h⟩ := callK_inv h
        rw [cl_eq hcl (L_spec_l15Own (⟨a_0.Geo, a_0.Blocks, a_0.Fuse, a_0.Keep, false, a_0.Ops⟩ : Flash) h_y33)]
        rotate_left
        · show _ = _; kernel_rfl
        · show _ = _; kernel_rfl
        conv => lhs; whnf
        conv => lhs; whnf
        try (rw [litF_nst (f := rBlock) (g := rS) (p := fun x => x.Pages) (fun _ => rfl) (fun _ => rfl) (fun _ => rfl)]; conv => lhs; whnf)
        obtain ⟨hl_i46, h⟩ := grd_inv h
        refine loop_for hlp (l := a_1) hl_i46 (fun (i46 : Nat) ((v47, v48, v49, v50, v51, v52, v53, v54) : (Int × Int × Int × Int × Int × Bool × Int × (List Block))) => ([.dead, .d (.arr (a_1.map rFault)), .dead, .dead, .bp 0 0, .dead, .bp 1 0, IN (i46 : Int)] ++ List.replicate 33 .dead : List V)) (fun (i46 : Nat) ((v47, v48, v49, v50, v51, v52, v53, v54) : (Int × Int × Int × Int × Int × Bool × Int × (List Block))) => ([some (.box [IN 0, IN 0, IN 0, .d (.arr (([] : List Block).map rBlock)), IN 0, IN 0, BO false, IN 0]), some (.box [IN v47, IN v48, IN v49, .nsl 2, IN v50, IN v51, BO v52, IN v53]), some (.nst ⟨91, 4, 3, 9, 1⟩ v54.length (v54.map rBlock))] : Fo)) (fun (r : (Flash × Int)) => ((.tup [.agg [IN r.1.Geo.Dies, IN r.1.Geo.Blocks, IN r.1.Geo.Pages, .d (.arr (r.1.Blocks.map rBlock)), IN r.1.Fuse, IN r.1.Keep, BO r.1.Off, IN r.1.Ops], IN r.2] : V), ([] : Fo))) ?_ ?_ ((⟨a_0.Geo, a_0.Blocks, a_0.Fuse, a_0.Keep, false, a_0.Ops⟩ : Flash).Geo.Dies, (⟨a_0.Geo, a_0.Blocks, a_0.Fuse, a_0.Keep, false, a_0.Ops⟩ : Flash).Geo.Blocks, (⟨a_0.Geo, a_0.Blocks, a_0.Fuse, a_0.Keep, false, a_0.Ops⟩ : Flash).Geo.Pages, (⟨a_0.Geo, a_0.Blocks, a_0.Fuse, a_0.Keep, false, a_0.Ops⟩ : Flash).Fuse, (⟨a_0.Geo, a_0.Blocks, a_0.Fuse, a_0.Keep, false, a_0.Ops⟩ : Flash).Keep, (⟨a_0.Geo, a_0.Blocks, a_0.Fuse, a_0.Keep, false, a_0.Ops⟩ : Flash).Off, (⟨a_0.Geo, a_0.Blocks, a_0.Fuse, a_0.Keep, false, a_0.Ops⟩ : Flash).Ops, y33) _ (fun kk => by kernel_rfl) h
        · clear h
          rintro next_nx55 nx55 i46 hi_i46 hnx55 ⟨v47, v48, v49, v50, v51, v52, v53, v54⟩ r h
          try dsimp only at h
          have hn_i46 : i46 < 4611686018427387904 := by omega
          have hx_x56 := get_map rFault a_1 i46 hi_i46
          generalize a_1[i46] = x56 at h hx_x56
          have hd_i46 : (decide ((i46 : Int) < (a_1.length : Int))) = true := decide_eq_true (by omega)
          conv => lhs; whnf
          try rw [len_of (l := a_1) (r := rFault)]
          try (first | rw [hd_i46] | (split; (first | (rename_i hx; exact absurd (hd_i46.symm.trans hx) (by decide)) | (rotate_left; rename_i hx; exact absurd (hd_i46.symm.trans hx) (by decide)))))
          conv => lhs; whnf
          try (rw [decide_eq_true hq_x56]; conv => lhs; whnf)
          rw [hx_x56]
          conv => lhs; whnf
          rw [hx_x56]
          conv => lhs; whnf
          obtain ⟨y57, h_y57, h⟩ := callK_inv h
          rw [cl_eq hcl (L_spec_l08Apply v47 v48 v49 v50 v51 v52 v53 x56 v54 h_y57)]
          rotate_left
          · show _ = _; kernel_rfl
          · show _ = _; kernel_rfl
          conv => lhs; whnf
          rw [wrap_nat i46 (by have := hn_i46; omega)]
          exact hnx55 _ _ _ _ (fun kk => by kernel_rfl) h
        · clear h
          rintro next_nx55 ⟨v47, v48, v49, v50, v51, v52, v53, v54⟩ r h
          try dsimp only at h
          have hd_i46 : (decide ((a_1.length : Int) < (a_1.length : Int))) = false := decide_eq_false (by omega)
          conv => lhs; whnf
          try rw [len_of (l := a_1) (r := rFault)]
          try (first | rw [hd_i46] | (split; (first | (rename_i hx; exact absurd (hd_i46.symm.trans hx) (by decide)) | (rotate_left; rename_i hx; exact absurd (hd_i46.symm.trans hx) (by decide)))))
          conv => lhs; whnf
          obtain rfl := Option.some.inj h; show _ = _; kernel_rfl

      · replace h := ifT h hb5; conv => lhs; whnf
        try (rw [hb5]; conv => lhs; whnf)
        obtain ⟨y6, h_y6, h⟩ := callK_inv h
        rw [cl_eq hcl (L_spec_l08Cuts a_1 h_y6)]
        rotate_left
        · show _ = _; kernel_rfl
        · show _ = _; kernel_rfl
        conv => lhs; whnf
        try (rw [hb5]; conv => lhs; whnf)
        cases hb7 : y6
        · replace h := ifF h (booF hb7); conv => lhs; whnf
          obtain ⟨y8, h_y8, h⟩ := callK_inv h
          rw [cl_eq hcl (L_spec_l15Own (⟨a_0.Geo, a_0.Blocks, a_0.Fuse, a_0.Keep, true, a_0.Ops⟩ : Flash) h_y8)]
          rotate_left
          · show _ = _; kernel_rfl
          · show _ = _; kernel_rfl
          conv => lhs; whnf
          conv => lhs; whnf
          try (rw [litF_nst (f := rBlock) (g := rS) (p := fun x => x.Pages) (fun _ => rfl) (fun _ => rfl) (fun _ => rfl)]; conv => lhs; whnf)
          obtain ⟨hl_i21, h⟩ := grd_inv h
          refine loop_for hlp (l := a_1) hl_i21 (fun (i21 : Nat) ((v22, v23, v24, v25, v26, v27, v28, v29) : (Int × Int × Int × Int × Int × Bool × Int × (List Block))) => ([.dead, .d (.arr (a_1.map rFault)), .dead, .dead, .bp 0 0, .dead, .bp 1 0, IN (i21 : Int)] ++ List.replicate 33 .dead : List V)) (fun (i21 : Nat) ((v22, v23, v24, v25, v26, v27, v28, v29) : (Int × Int × Int × Int × Int × Bool × Int × (List Block))) => ([some (.box [IN 0, IN 0, IN 0, .d (.arr (([] : List Block).map rBlock)), IN 0, IN 0, BO false, IN 0]), some (.box [IN v22, IN v23, IN v24, .nsl 2, IN v25, IN v26, BO v27, IN v28]), some (.nst ⟨91, 4, 3, 9, 1⟩ v29.length (v29.map rBlock))] : Fo)) (fun (r : (Flash × Int)) => ((.tup [.agg [IN r.1.Geo.Dies, IN r.1.Geo.Blocks, IN r.1.Geo.Pages, .d (.arr (r.1.Blocks.map rBlock)), IN r.1.Fuse, IN r.1.Keep, BO r.1.Off, IN r.1.Ops], IN r.2] : V), ([] : Fo))) ?_ ?_ ((⟨a_0.Geo, a_0.Blocks, a_0.Fuse, a_0.Keep, true, a_0.Ops⟩ : Flash).Geo.Dies, (⟨a_0.Geo, a_0.Blocks, a_0.Fuse, a_0.Keep, true, a_0.Ops⟩ : Flash).Geo.Blocks, (⟨a_0.Geo, a_0.Blocks, a_0.Fuse, a_0.Keep, true, a_0.Ops⟩ : Flash).Geo.Pages, (⟨a_0.Geo, a_0.Blocks, a_0.Fuse, a_0.Keep, true, a_0.Ops⟩ : Flash).Fuse, (⟨a_0.Geo, a_0.Blocks, a_0.Fuse, a_0.Keep, true, a_0.Ops⟩ : Flash).Keep, (⟨a_0.Geo, a_0.Blocks, a_0.Fuse, a_0.Keep, true, a_0.Ops⟩ : Flash).Off, (⟨a_0.Geo, a_0.Blocks, a_0.Fuse, a_0.Keep, true, a_0.Ops⟩ : Flash).Ops, y8) _ (fun kk => by kernel_rfl) h
          · clear h
            rintro next_nx30 nx30 i21 hi_i21 hnx30 ⟨v22, v23, v24, v25, v26, v27, v28, v29⟩ r h
            try dsimp only at h
            have hn_i21 : i21 < 4611686018427387904 := by omega
            have hx_x31 := get_map rFault a_1 i21 hi_i21
            generalize a_1[i21] = x31 at h hx_x31
            have hd_i21 : (decide ((i21 : Int) < (a_1.length : Int))) = true := decide_eq_true (by omega)
            conv => lhs; whnf
            try rw [len_of (l := a_1) (r := rFault)]
            try (first | rw [hd_i21] | (split; (first | (rename_i hx; exact absurd (hd_i21.symm.trans hx) (by decide)) | (rotate_left; rename_i hx; exact absurd (hd_i21.symm.trans hx) (by decide)))))
            conv => lhs; whnf
            try (rw [decide_eq_true hq_x31]; conv => lhs; whnf)
            rw [hx_x31]
            conv => lhs; whnf
            rw [hx_x31]
            conv => lhs; whnf
            obtain ⟨y32, h_y32, h⟩ := callK_inv h
            rw [cl_eq hcl (L_spec_l08Apply v22 v23 v24 v25 v26 v27 v28 x31 v29 h_y32)]
            rotate_left
            · show _ = _; kernel_rfl
            · show _ = _; kernel_rfl
            conv => lhs; whnf
            rw [wrap_nat i21 (by have := hn_i21; omega)]
            exact hnx30 _ _ _ _ (fun kk => by kernel_rfl) h
          · clear h
            rintro next_nx30 ⟨v22, v23, v24, v25, v26, v27, v28, v29⟩ r h
            try dsimp only at h
            have hd_i21 : (decide ((a_1.length : Int) < (a_1.length : Int))) = false := decide_eq_false (by omega)
            conv => lhs; whnf
            try rw [len_of (l := a_1) (r := rFault)]
            try (first | rw [hd_i21] | (split; (first | (rename_i hx; exact absurd (hd_i21.symm.trans hx) (by decide)) | (rotate_left; rename_i hx; exact absurd (hd_i21.symm.trans hx) (by decide)))))
            conv => lhs; whnf
            obtain rfl := Option.some.inj h; show _ = _; kernel_rfl

        · replace h := ifT h hb7; conv => lhs; whnf
          obtain rfl := Option.some.inj h; show _ = _; kernel_rfl


noncomputable def p_impl_ApplyFault (a_0 : Flash) (a_1 : Fault) : Option (Flash × Int) :=
  callK (p_impl_ApplyFaults a_0 ([a_1] : List Fault)) fun y1 =>
  some (y1.1, y1.2)

set_option maxHeartbeats 4000000 in
theorem L_impl_ApplyFault (a_0 : Flash) (a_1 : Fault) {r : (Flash × Int)} (h : p_impl_ApplyFault a_0 a_1 = some r) : callL E 31 [.agg [IN a_0.Geo.Dies, IN a_0.Geo.Blocks, IN a_0.Geo.Pages, .d (.arr (a_0.Blocks.map rBlock)), IN a_0.Fuse, IN a_0.Keep, BO a_0.Off, IN a_0.Ops], .agg [IN a_1.Kind, IN a_1.Block, IN a_1.Page, IN a_1.Bit]] ([] : Fo) = some (.tup [.agg [IN r.1.Geo.Dies, IN r.1.Geo.Blocks, IN r.1.Geo.Pages, .d (.arr (r.1.Blocks.map rBlock)), IN r.1.Fuse, IN r.1.Keep, BO r.1.Off, IN r.1.Ops], IN r.2], ([] : Fo)) := by
  unfold p_impl_ApplyFault at h
  refine callW (fu := Try.f31) rfl rfl rfl NN ?_
  intro lp cl hlp hcl
  conv => lhs; whnf
  obtain ⟨y1, h_y1, h⟩ := callK_inv h
  rw [cl_eq hcl (L_impl_ApplyFaults a_0 ([a_1] : List Fault) h_y1)]
  rotate_left
  · show _ = _; kernel_rfl
  · show _ = _; kernel_rfl
  conv => lhs; whnf
  obtain rfl := Option.some.inj h; show _ = _; kernel_rfl


noncomputable def p_slices_Equal (a_0 : List ByteArray) (a_1 : List ByteArray) : Option Bool :=
  if ¬ (a_0.length : Int) = (a_1.length : Int) then
    some false
  else
    grd (a_0.length < 4611686018427387904) <|
    forK a_0 (fun (i7 : Nat) x9 (_ : Unit) (nx8 : Unit → Option _) =>
      getK a_1 (i7 : Int) fun x10 =>
      if (x9.toList == x10.toList) = true then
        nx8 ()
      else
        some false) () (fun (_ : Unit) =>
      some true)

set_option maxHeartbeats 4000000 in
theorem L_slices_Equal (a_0 : List ByteArray) (a_1 : List ByteArray) {r : Bool} (h : p_slices_Equal a_0 a_1 = some r) : callL E 216 [.d (.arr (a_0.map rS)), .d (.arr (a_1.map rS))] ([] : Fo) = some (BO r, ([] : Fo)) := by
  unfold p_slices_Equal at h
  refine callW (fu := Try.f216) rfl rfl rfl NN ?_
  intro lp cl hlp hcl
  conv => lhs; whnf
  try rw [len_of (l := a_0) (r := rS)]
  try rw [len_of (l := a_1) (r := rS)]
  cases hb1 : ((a_0.length : Int) != (a_1.length : Int))
  · replace h := ifF h ((fun h => not_not_intro (bneF h)) hb1); conv => lhs; whnf
    try rw [len_of (l := a_0) (r := rS)]
    obtain ⟨hl_i7, h⟩ := grd_inv h
    refine loop_for hlp (l := a_0) hl_i7 (fun (i7 : Nat) (_ : Unit) => ([.d (.arr (a_0.map rS)), .d (.arr (a_1.map rS)), .dead, .dead, .dead, .dead, .dead, .dead, .dead, .dead, .dead, .dead, IN (a_0.length : Int), IN (i7 : Int)] ++ List.replicate 12 .dead : List V)) (fun (i7 : Nat) (_ : Unit) => ([] : Fo)) (fun (r : Bool) => ((BO r : V), ([] : Fo))) ?_ ?_ () _ (fun kk => by kernel_rfl) h
    · clear h
      rintro next_nx8 nx8 i7 hi_i7 hnx8 ⟨⟩ r h
      try dsimp only at h
      have hn_i7 : i7 < 4611686018427387904 := by omega
      have hx_x9 := get_map rS a_0 i7 hi_i7
      generalize a_0[i7] = x9 at h hx_x9
      have hd_i7 : (decide ((i7 : Int) < (a_0.length : Int))) = true := decide_eq_true (by omega)
      conv => lhs; whnf
      try (first | rw [hd_i7] | (split; (first | (rename_i hx; exact absurd (hd_i7.symm.trans hx) (by decide)) | (rotate_left; rename_i hx; exact absurd (hd_i7.symm.trans hx) (by decide)))))
      conv => lhs; whnf
      try (rw [decide_eq_true hq_x9]; conv => lhs; whnf)
      rw [hx_x9]
      conv => lhs; whnf
      rw [hx_x9]
      conv => lhs; whnf
      obtain ⟨x10, hq_x10, hx_x10', h⟩ := getK_inv h
      have hx_x10 := get_of (r := rS) hx_x10'
      try (rw [decide_eq_true hq_x10]; conv => lhs; whnf)
      rw [hx_x10]
      conv => lhs; whnf
      rw [hx_x10]
      conv => lhs; whnf
      cases hb11 : (x9.toList == x10.toList)
      · replace h := ifF h (booF hb11); conv => lhs; whnf
        obtain rfl := Option.some.inj h; show _ = _; kernel_rfl

      · replace h := ifT h hb11; conv => lhs; whnf
        rw [wrap_nat i7 (by have := hn_i7; omega)]
        exact hnx8 _ _ _ _ (fun kk => by kernel_rfl) h
    · clear h
      rintro next_nx8 ⟨⟩ r h
      try dsimp only at h
      have hd_i7 : (decide ((a_0.length : Int) < (a_0.length : Int))) = false := decide_eq_false (by omega)
      conv => lhs; whnf
      try (first | rw [hd_i7] | (split; (first | (rename_i hx; exact absurd (hd_i7.symm.trans hx) (by decide)) | (rotate_left; rename_i hx; exact absurd (hd_i7.symm.trans hx) (by decide)))))
      conv => lhs; whnf
      obtain rfl := Option.some.inj h; show _ = _; kernel_rfl

  · replace h := ifT h (bneT hb1); conv => lhs; whnf
    obtain rfl := Option.some.inj h; show _ = _; kernel_rfl


noncomputable def p_impl_sameBlock (a_0 : Block) (a_1 : Block) : Option Bool :=
  if a_0.Erases = a_1.Erases then
    if a_0.Next = a_1.Next then
      if (a_0.Bad == a_1.Bad) = true then
        callK (p_slices_Equal a_0.Pages a_1.Pages) fun y4 =>
        some y4
      else
        some false
    else
      some false
  else
    some false

set_option maxHeartbeats 4000000 in
theorem L_impl_sameBlock (a_0 : Block) (a_1 : Block) {r : Bool} (h : p_impl_sameBlock a_0 a_1 = some r) : callL E 133 [.agg [IN a_0.Erases, IN a_0.Next, BO a_0.Bad, .d (.arr (a_0.Pages.map rS))], .agg [IN a_1.Erases, IN a_1.Next, BO a_1.Bad, .d (.arr (a_1.Pages.map rS))]] ([] : Fo) = some (BO r, ([] : Fo)) := by
  unfold p_impl_sameBlock at h
  refine callW (fu := Try.f133) rfl rfl rfl NN ?_
  intro lp cl hlp hcl
  conv => lhs; whnf
  cases hb1 : (a_0.Erases == a_1.Erases)
  · replace h := ifF h (beqF hb1); conv => lhs; whnf
    try (rw [hb1]; conv => lhs; whnf)
    try (rw [hb1]; conv => lhs; whnf)
    try (rw [hb1]; conv => lhs; whnf)
    try (rw [hb1]; conv => lhs; whnf)
    try (rw [hb1]; conv => lhs; whnf)
    obtain rfl := Option.some.inj h; show _ = _; kernel_rfl

  · replace h := ifT h (beqT hb1); conv => lhs; whnf
    try (rw [hb1]; conv => lhs; whnf)
    try (rw [hb1]; conv => lhs; whnf)
    try (rw [hb1]; conv => lhs; whnf)
    try (rw [hb1]; conv => lhs; whnf)
    try (rw [hb1]; conv => lhs; whnf)
    cases hb2 : (a_0.Next == a_1.Next)
    · replace h := ifF h (beqF hb2); conv => lhs; whnf
      try (rw [hb2]; conv => lhs; whnf)
      try (rw [hb2]; conv => lhs; whnf)
      try (rw [hb2]; conv => lhs; whnf)
      try (rw [hb2]; conv => lhs; whnf)
      try (rw [hb2]; conv => lhs; whnf)
      obtain rfl := Option.some.inj h; show _ = _; kernel_rfl

    · replace h := ifT h (beqT hb2); conv => lhs; whnf
      try (rw [hb2]; conv => lhs; whnf)
      try (rw [hb2]; conv => lhs; whnf)
      try (rw [hb2]; conv => lhs; whnf)
      try (rw [hb2]; conv => lhs; whnf)
      try (rw [hb2]; conv => lhs; whnf)
      cases hb3 : (a_0.Bad == a_1.Bad)
      · replace h := ifF h (booF hb3); conv => lhs; whnf
        try (rw [hb3]; conv => lhs; whnf)
        try (rw [hb3]; conv => lhs; whnf)
        try (rw [hb3]; conv => lhs; whnf)
        try (rw [hb3]; conv => lhs; whnf)
        try (rw [hb3]; conv => lhs; whnf)
        obtain rfl := Option.some.inj h; show _ = _; kernel_rfl

      · replace h := ifT h hb3; conv => lhs; whnf
        try (rw [hb3]; conv => lhs; whnf)
        try (rw [hb3]; conv => lhs; whnf)
        try (rw [hb3]; conv => lhs; whnf)
        try (rw [hb3]; conv => lhs; whnf)
        obtain ⟨y4, h_y4, h⟩ := callK_inv h
        rw [cl_eq hcl (L_slices_Equal a_0.Pages a_1.Pages h_y4)]
        rotate_left
        · show _ = _; kernel_rfl
        · show _ = _; kernel_rfl
        conv => lhs; whnf
        try (rw [hb3]; conv => lhs; whnf)
        obtain rfl := Option.some.inj h; show _ = _; kernel_rfl


noncomputable def p_slices_EqualFunc_impl_sameBlock (a_0 : List Block) (a_1 : List Block) : Option Bool :=
  if ¬ (a_0.length : Int) = (a_1.length : Int) then
    some false
  else
    grd (a_0.length < 4611686018427387904) <|
    forK a_0 (fun (i8 : Nat) x10 (_ : Unit) (nx9 : Unit → Option _) =>
      getK a_1 (i8 : Int) fun x11 =>
      callK (p_impl_sameBlock x10 x11) fun y12 =>
      if y12 = true then
        nx9 ()
      else
        some false) () (fun (_ : Unit) =>
      some true)

set_option maxHeartbeats 4000000 in
theorem L_slices_EqualFunc_impl_sameBlock (a_0 : List Block) (a_1 : List Block) {r : Bool} (h : p_slices_EqualFunc_impl_sameBlock a_0 a_1 = some r) : callL E 132 [.d (.arr (a_0.map rBlock)), .d (.arr (a_1.map rBlock)), .clo 133 []] ([] : Fo) = some (BO r, ([] : Fo)) := by
  unfold p_slices_EqualFunc_impl_sameBlock at h
  refine callW (fu := Try.f132) rfl rfl rfl NN ?_
  intro lp cl hlp hcl
  conv => lhs; whnf
  try rw [len_of (l := a_0) (r := rBlock)]
  try rw [len_of (l := a_1) (r := rBlock)]
  cases hb1 : ((a_0.length : Int) != (a_1.length : Int))
  · replace h := ifF h ((fun h => not_not_intro (bneF h)) hb1); conv => lhs; whnf
    try rw [len_of (l := a_0) (r := rBlock)]
    obtain ⟨hl_i8, h⟩ := grd_inv h
    refine loop_for hlp (l := a_0) hl_i8 (fun (i8 : Nat) (_ : Unit) => ([.dead, .d (.arr (a_1.map rBlock)), .clo 133 [], .dead, .dead, .dead, .dead, .dead, .dead, .dead, .dead, .dead, .dead, .dead, .dead, .d (.arr (a_0.map rBlock)), IN (a_0.length : Int), IN (i8 : Int)] ++ List.replicate 14 .dead : List V)) (fun (i8 : Nat) (_ : Unit) => ([] : Fo)) (fun (r : Bool) => ((BO r : V), ([] : Fo))) ?_ ?_ () _ (fun kk => by kernel_rfl) h
    · clear h
      rintro next_nx9 nx9 i8 hi_i8 hnx9 ⟨⟩ r h
      try dsimp only at h
      have hn_i8 : i8 < 4611686018427387904 := by omega
      have hx_x10 := get_map rBlock a_0 i8 hi_i8
      generalize a_0[i8] = x10 at h hx_x10
      have hd_i8 : (decide ((i8 : Int) < (a_0.length : Int))) = true := decide_eq_true (by omega)
      conv => lhs; whnf
      try (first | rw [hd_i8] | (split; (first | (rename_i hx; exact absurd (hd_i8.symm.trans hx) (by decide)) | (rotate_left; rename_i hx; exact absurd (hd_i8.symm.trans hx) (by decide)))))
      conv => lhs; whnf
      try (rw [decide_eq_true hq_x10]; conv => lhs; whnf)
      rw [hx_x10]
      conv => lhs; whnf
      rw [hx_x10]
      conv => lhs; whnf
      obtain ⟨x11, hq_x11, hx_x11', h⟩ := getK_inv h
      have hx_x11 := get_of (r := rBlock) hx_x11'
      try (rw [decide_eq_true hq_x11]; conv => lhs; whnf)
      rw [hx_x11]
      conv => lhs; whnf
      rw [hx_x11]
      conv => lhs; whnf
      obtain ⟨y12, h_y12, h⟩ := callK_inv h
      rw [cl_eq hcl (L_impl_sameBlock x10 x11 h_y12)]
      rotate_left
      · show _ = _; kernel_rfl
      · show _ = _; kernel_rfl
      conv => lhs; whnf
      cases hb13 : y12
      · replace h := ifF h (booF hb13); conv => lhs; whnf
        obtain rfl := Option.some.inj h; show _ = _; kernel_rfl

      · replace h := ifT h hb13; conv => lhs; whnf
        rw [wrap_nat i8 (by have := hn_i8; omega)]
        exact hnx9 _ _ _ _ (fun kk => by kernel_rfl) h
    · clear h
      rintro next_nx9 ⟨⟩ r h
      try dsimp only at h
      have hd_i8 : (decide ((a_0.length : Int) < (a_0.length : Int))) = false := decide_eq_false (by omega)
      conv => lhs; whnf
      try (first | rw [hd_i8] | (split; (first | (rename_i hx; exact absurd (hd_i8.symm.trans hx) (by decide)) | (rotate_left; rename_i hx; exact absurd (hd_i8.symm.trans hx) (by decide)))))
      conv => lhs; whnf
      obtain rfl := Option.some.inj h; show _ = _; kernel_rfl

  · replace h := ifT h (bneT hb1); conv => lhs; whnf
    obtain rfl := Option.some.inj h; show _ = _; kernel_rfl


noncomputable def p_impl_SameFlash (a_0 : Flash) (a_1 : Flash) : Option Bool :=
  if ((a_0.Geo.Dies == a_1.Geo.Dies) && ((a_0.Geo.Blocks == a_1.Geo.Blocks) && ((a_0.Geo.Pages == a_1.Geo.Pages) && true))) = true then
    callK (p_slices_EqualFunc_impl_sameBlock a_0.Blocks a_1.Blocks) fun y2 =>
    if y2 = true then
      if a_0.Fuse = a_1.Fuse then
        if a_0.Keep = a_1.Keep then
          if (a_0.Off == a_1.Off) = true then
            some (a_0.Ops == a_1.Ops)
          else
            some false
        else
          some false
      else
        some false
    else
      some false
  else
    some false

set_option maxHeartbeats 4000000 in
theorem L_impl_SameFlash (a_0 : Flash) (a_1 : Flash) {r : Bool} (h : p_impl_SameFlash a_0 a_1 = some r) : callL E 49 [.agg [IN a_0.Geo.Dies, IN a_0.Geo.Blocks, IN a_0.Geo.Pages, .d (.arr (a_0.Blocks.map rBlock)), IN a_0.Fuse, IN a_0.Keep, BO a_0.Off, IN a_0.Ops], .agg [IN a_1.Geo.Dies, IN a_1.Geo.Blocks, IN a_1.Geo.Pages, .d (.arr (a_1.Blocks.map rBlock)), IN a_1.Fuse, IN a_1.Keep, BO a_1.Off, IN a_1.Ops]] ([] : Fo) = some (BO r, ([] : Fo)) := by
  unfold p_impl_SameFlash at h
  refine callW (fu := Try.f49) rfl rfl rfl NN ?_
  intro lp cl hlp hcl
  conv => lhs; whnf
  cases hb1 : ((a_0.Geo.Dies == a_1.Geo.Dies) && ((a_0.Geo.Blocks == a_1.Geo.Blocks) && ((a_0.Geo.Pages == a_1.Geo.Pages) && true)))
  · replace h := ifF h (booF hb1); conv => lhs; whnf
    try (rw [hb1]; conv => lhs; whnf)
    try (rw [hb1]; conv => lhs; whnf)
    try (rw [hb1]; conv => lhs; whnf)
    try (rw [hb1]; conv => lhs; whnf)
    try (rw [hb1]; conv => lhs; whnf)
    obtain rfl := Option.some.inj h; show _ = _; kernel_rfl

  · replace h := ifT h hb1; conv => lhs; whnf
    try (rw [hb1]; conv => lhs; whnf)
    try (rw [hb1]; conv => lhs; whnf)
    try (rw [hb1]; conv => lhs; whnf)
    try (rw [hb1]; conv => lhs; whnf)
    obtain ⟨y2, h_y2, h⟩ := callK_inv h
    rw [cl_eq hcl (L_slices_EqualFunc_impl_sameBlock a_0.Blocks a_1.Blocks h_y2)]
    rotate_left
    · show _ = _; kernel_rfl
    · show _ = _; kernel_rfl
    conv => lhs; whnf
    try (rw [hb1]; conv => lhs; whnf)
    cases hb3 : y2
    · replace h := ifF h (booF hb3); conv => lhs; whnf
      try (rw [hb3]; conv => lhs; whnf)
      try (rw [hb3]; conv => lhs; whnf)
      try (rw [hb3]; conv => lhs; whnf)
      try (rw [hb3]; conv => lhs; whnf)
      try (rw [hb3]; conv => lhs; whnf)
      obtain rfl := Option.some.inj h; show _ = _; kernel_rfl

    · replace h := ifT h hb3; conv => lhs; whnf
      try (rw [hb3]; conv => lhs; whnf)
      try (rw [hb3]; conv => lhs; whnf)
      try (rw [hb3]; conv => lhs; whnf)
      try (rw [hb3]; conv => lhs; whnf)
      try (rw [hb3]; conv => lhs; whnf)
      cases hb4 : (a_0.Fuse == a_1.Fuse)
      · replace h := ifF h (beqF hb4); conv => lhs; whnf
        try (rw [hb4]; conv => lhs; whnf)
        try (rw [hb4]; conv => lhs; whnf)
        try (rw [hb4]; conv => lhs; whnf)
        try (rw [hb4]; conv => lhs; whnf)
        try (rw [hb4]; conv => lhs; whnf)
        obtain rfl := Option.some.inj h; show _ = _; kernel_rfl

      · replace h := ifT h (beqT hb4); conv => lhs; whnf
        try (rw [hb4]; conv => lhs; whnf)
        try (rw [hb4]; conv => lhs; whnf)
        try (rw [hb4]; conv => lhs; whnf)
        try (rw [hb4]; conv => lhs; whnf)
        try (rw [hb4]; conv => lhs; whnf)
        cases hb5 : (a_0.Keep == a_1.Keep)
        · replace h := ifF h (beqF hb5); conv => lhs; whnf
          try (rw [hb5]; conv => lhs; whnf)
          try (rw [hb5]; conv => lhs; whnf)
          try (rw [hb5]; conv => lhs; whnf)
          try (rw [hb5]; conv => lhs; whnf)
          try (rw [hb5]; conv => lhs; whnf)
          obtain rfl := Option.some.inj h; show _ = _; kernel_rfl

        · replace h := ifT h (beqT hb5); conv => lhs; whnf
          try (rw [hb5]; conv => lhs; whnf)
          try (rw [hb5]; conv => lhs; whnf)
          try (rw [hb5]; conv => lhs; whnf)
          try (rw [hb5]; conv => lhs; whnf)
          try (rw [hb5]; conv => lhs; whnf)
          cases hb6 : (a_0.Off == a_1.Off)
          · replace h := ifF h (booF hb6); conv => lhs; whnf
            try (rw [hb6]; conv => lhs; whnf)
            try (rw [hb6]; conv => lhs; whnf)
            try (rw [hb6]; conv => lhs; whnf)
            try (rw [hb6]; conv => lhs; whnf)
            try (rw [hb6]; conv => lhs; whnf)
            obtain rfl := Option.some.inj h; show _ = _; kernel_rfl

          · replace h := ifT h hb6; conv => lhs; whnf
            try (rw [hb6]; conv => lhs; whnf)
            try (rw [hb6]; conv => lhs; whnf)
            try (rw [hb6]; conv => lhs; whnf)
            try (rw [hb6]; conv => lhs; whnf)
            try (rw [hb6]; conv => lhs; whnf)
            obtain rfl := Option.some.inj h; show _ = _; kernel_rfl


noncomputable def p_laws_FnFaultsTwice (a_0 : List Int) : Option Bool :=
  if (a_0.length : Int) > 400 then
    some true
  else
    callK (p_spec_DrawApplyFaults a_0) fun y2 =>
    callK (p_impl_ApplyFaults y2.1 y2.2) fun y3 =>
    callK (p_spec_ApplyFaults y2.1 y2.2) fun y4 =>
    if ¬ y3.2 = y4.2 then
      some false
    else
      if ¬ y3.2 = 0 then
        some true
      else
        grd (y2.2.length < 4611686018427387904) <|
        forK y2.2 (fun (i15 : Nat) x19 ((v16, v17) : (Bool × Flash)) (nx18 : (Bool × Flash) → Option _) =>
          callK (p_impl_ApplyFault v17 x19) fun y20 =>
          if ¬ y20.2 = 0 then
            some false
          else
            if v16 = true then
              nx18 ((decide (x19.Kind ≤ 3)), y20.1)
            else
              nx18 (false, y20.1)) (true, y2.1) (fun ((v16, v17) : (Bool × Flash)) =>
          callK (p_impl_SameFlash y3.1 v17) fun y23 =>
          if y23 = true then
            if v16 = true then
              callK (p_impl_ApplyFaults y3.1 y2.2) fun y26 =>
              if y26.2 = 0 then
                callK (p_impl_SameFlash y26.1 y2.1) fun y28 =>
                some y28
              else
                some false
            else
              some true
          else
            some false)

set_option maxHeartbeats 4000000 in
theorem L_laws_FnFaultsTwice (a_0 : List Int) {r : Bool} (h : p_laws_FnFaultsTwice a_0 = some r) : callL E 7 [.d (.arr (a_0.map rU))] ([] : Fo) = some (BO r, ([] : Fo)) := by
  unfold p_laws_FnFaultsTwice at h
  refine callW (fu := Try.f7) rfl rfl rfl NN ?_
  intro lp cl hlp hcl
  conv => lhs; whnf
  try rw [len_of (l := a_0) (r := rU)]
  cases hb1 : (decide ((a_0.length : Int) > 400))
  · replace h := ifF h (decF hb1); conv => lhs; whnf
    obtain ⟨y2, h_y2, h⟩ := callK_inv h
    rw [cl_eq hcl (L_spec_DrawApplyFaults a_0 h_y2)]
    rotate_left
    · show _ = _; kernel_rfl
    · show _ = _; kernel_rfl
    conv => lhs; whnf
    obtain ⟨y3, h_y3, h⟩ := callK_inv h
    rw [cl_eq hcl (L_impl_ApplyFaults y2.1 y2.2 h_y3)]
    rotate_left
    · show _ = _; kernel_rfl
    · show _ = _; kernel_rfl
    conv => lhs; whnf
    obtain ⟨y4, h_y4, h⟩ := callK_inv h
    rw [cl_eq hcl (L_spec_ApplyFaults y2.1 y2.2 h_y4)]
    rotate_left
    · show _ = _; kernel_rfl
    · show _ = _; kernel_rfl
    conv => lhs; whnf
    cases hb5 : (y3.2 != y4.2)
    · replace h := ifF h ((fun h => not_not_intro (bneF h)) hb5); conv => lhs; whnf
      cases hb6 : (y3.2 != 0)
      · replace h := ifF h ((fun h => not_not_intro (bneF h)) hb6); conv => lhs; whnf
        obtain ⟨hl_i15, h⟩ := grd_inv h
        refine loop_for hlp (l := y2.2) hl_i15 (fun (i15 : Nat) ((v16, v17) : (Bool × Flash)) => ([.dead, .dead, .dead, .bp 0 0, .d (.arr (y2.2.map rFault)), .bp 1 0, .dead, .dead, .dead, .bp 2 0, BO v16, IN (i15 : Int)] ++ List.replicate 76 .dead : List V)) (fun (i15 : Nat) ((v16, v17) : (Bool × Flash)) => ([some (.box [IN y2.1.Geo.Dies, IN y2.1.Geo.Blocks, IN y2.1.Geo.Pages, .d (.arr (y2.1.Blocks.map rBlock)), IN y2.1.Fuse, IN y2.1.Keep, BO y2.1.Off, IN y2.1.Ops]), some (.box [IN y3.1.Geo.Dies, IN y3.1.Geo.Blocks, IN y3.1.Geo.Pages, .d (.arr (y3.1.Blocks.map rBlock)), IN y3.1.Fuse, IN y3.1.Keep, BO y3.1.Off, IN y3.1.Ops]), some (.box [IN v17.Geo.Dies, IN v17.Geo.Blocks, IN v17.Geo.Pages, .d (.arr (v17.Blocks.map rBlock)), IN v17.Fuse, IN v17.Keep, BO v17.Off, IN v17.Ops])] : Fo)) (fun (r : Bool) => ((BO r : V), ([] : Fo))) ?_ ?_ (true, y2.1) _ (fun kk => by kernel_rfl) h
        · clear h
          rintro next_nx18 nx18 i15 hi_i15 hnx18 ⟨v16, v17⟩ r h
          try dsimp only at h
          have hn_i15 : i15 < 4611686018427387904 := by omega
          have hx_x19 := get_map rFault y2.2 i15 hi_i15
          generalize y2.2[i15] = x19 at h hx_x19
          have hd_i15 : (decide ((i15 : Int) < (y2.2.length : Int))) = true := decide_eq_true (by omega)
          conv => lhs; whnf
          try rw [len_of (l := y2.2) (r := rFault)]
          try (first | rw [hd_i15] | (split; (first | (rename_i hx; exact absurd (hd_i15.symm.trans hx) (by decide)) | (rotate_left; rename_i hx; exact absurd (hd_i15.symm.trans hx) (by decide)))))
          conv => lhs; whnf
          try (rw [decide_eq_true hq_x19]; conv => lhs; whnf)
          rw [hx_x19]
          conv => lhs; whnf
          rw [hx_x19]
          conv => lhs; whnf
          obtain ⟨y20, h_y20, h⟩ := callK_inv h
          rw [cl_eq hcl (L_impl_ApplyFault v17 x19 h_y20)]
          rotate_left
          · show _ = _; kernel_rfl
          · show _ = _; kernel_rfl
          conv => lhs; whnf
          cases hb21 : (y20.2 != 0)
          · replace h := ifF h ((fun h => not_not_intro (bneF h)) hb21); conv => lhs; whnf
            cases hb22 : v16
            · replace h := ifF h (booF hb22); conv => lhs; whnf
              try (rw [hb22]; conv => lhs; whnf)
              try (rw [hb22]; conv => lhs; whnf)
              try (rw [hb22]; conv => lhs; whnf)
              try (rw [hb22]; conv => lhs; whnf)
              try (rw [hb22]; conv => lhs; whnf)
              try (rw [hb22]; conv => lhs; whnf)
              rw [wrap_nat i15 (by have := hn_i15; omega)]
              exact hnx18 _ _ _ _ (fun kk => by kernel_rfl) h
            · replace h := ifT h hb22; conv => lhs; whnf
              try (rw [hb22]; conv => lhs; whnf)
              try (rw [hb22]; conv => lhs; whnf)
              try (rw [decide_eq_true hq_x19]; conv => lhs; whnf)
              rw [hx_x19]
              conv => lhs; whnf
              try (rw [hb22]; conv => lhs; whnf)
              try (rw [hb22]; conv => lhs; whnf)
              rw [hx_x19]
              conv => lhs; whnf
              try (rw [hb22]; conv => lhs; whnf)
              try (rw [hb22]; conv => lhs; whnf)
              rw [wrap_nat i15 (by have := hn_i15; omega)]
              exact hnx18 _ _ _ _ (fun kk => by kernel_rfl) h
          · replace h := ifT h (bneT hb21); conv => lhs; whnf
            obtain rfl := Option.some.inj h; show _ = _; kernel_rfl

        · clear h
          rintro next_nx18 ⟨v16, v17⟩ r h
          try dsimp only at h
          have hd_i15 : (decide ((y2.2.length : Int) < (y2.2.length : Int))) = false := decide_eq_false (by omega)
          conv => lhs; whnf
          try rw [len_of (l := y2.2) (r := rFault)]
          try (first | rw [hd_i15] | (split; (first | (rename_i hx; exact absurd (hd_i15.symm.trans hx) (by decide)) | (rotate_left; rename_i hx; exact absurd (hd_i15.symm.trans hx) (by decide)))))
          conv => lhs; whnf
          obtain ⟨y23, h_y23, h⟩ := callK_inv h
          rw [cl_eq hcl (L_impl_SameFlash y3.1 v17 h_y23)]
          rotate_left
          · show _ = _; kernel_rfl
          · show _ = _; kernel_rfl
          conv => lhs; whnf
          cases hb24 : y23
          · replace h := ifF h (booF hb24); conv => lhs; whnf
            obtain rfl := Option.some.inj h; show _ = _; kernel_rfl

          · replace h := ifT h hb24; conv => lhs; whnf
            cases hb25 : v16
            · replace h := ifF h (booF hb25); conv => lhs; whnf
              obtain rfl := Option.some.inj h; show _ = _; kernel_rfl

            · replace h := ifT h hb25; conv => lhs; whnf
              obtain ⟨y26, h_y26, h⟩ := callK_inv h
              rw [cl_eq hcl (L_impl_ApplyFaults y3.1 y2.2 h_y26)]
              rotate_left
              · show _ = _; kernel_rfl
              · show _ = _; kernel_rfl
              conv => lhs; whnf
              cases hb27 : (y26.2 == 0)
              · replace h := ifF h (beqF hb27); conv => lhs; whnf
                try (rw [hb27]; conv => lhs; whnf)
                try (rw [hb27]; conv => lhs; whnf)
                try (rw [hb27]; conv => lhs; whnf)
                obtain rfl := Option.some.inj h; show _ = _; kernel_rfl

              · replace h := ifT h (beqT hb27); conv => lhs; whnf
                try (rw [hb27]; conv => lhs; whnf)
                try (rw [hb27]; conv => lhs; whnf)
                obtain ⟨y28, h_y28, h⟩ := callK_inv h
                rw [cl_eq hcl (L_impl_SameFlash y26.1 y2.1 h_y28)]
                rotate_left
                · show _ = _; kernel_rfl
                · show _ = _; kernel_rfl
                conv => lhs; whnf
                try (rw [hb27]; conv => lhs; whnf)
                obtain rfl := Option.some.inj h; show _ = _; kernel_rfl

      · replace h := ifT h (bneT hb6); conv => lhs; whnf
        obtain rfl := Option.some.inj h; show _ = _; kernel_rfl

    · replace h := ifT h (bneT hb5); conv => lhs; whnf
      obtain rfl := Option.some.inj h; show _ = _; kernel_rfl

  · replace h := ifT h (decT hb1); conv => lhs; whnf
    obtain rfl := Option.some.inj h; show _ = _; kernel_rfl

theorem amongO_ok {b : Int} {s : Sl00Src} (l : List Int) (hl : 0 < l.length) (hb : 0 ≤ b) (h : SrcOk (b + 2) s) : ∃ r s', p_spec_l00Src_among' s l = some (r, s') ∧ r ∈ l ∧ SrcOk b s' := by
  obtain ⟨r, s1, e1, ⟨b1, b2, b3⟩, o1⟩ := pick_ok (l.length : Int) hb h
  unfold p_spec_l00Src_among'
  have hr : r < (l.length : Int) := by
    rcases Nat.lt_or_ge 1 l.length with h | h
    · exact b2 (by omega)
    · have := b3 (by omega); omega
  rw [e1, callK_some, getK_in b1 hr]
  exact ⟨_, _, rfl, List.getElem_mem _, o1⟩

/-! ### A flash array: its size, its copy, comparison, marks -/
def cB (L : List Block) : Nat := (L.map fun b => b.Pages.length).sum
def Fit (L : List Block) : Prop := L.length + cB L ≤ 1048576
theorem cB_nil : cB [] = 0 := rfl
theorem cB_cons (b : Block) (L : List Block) : cB (b :: L) = b.Pages.length + cB L := by simp [cB]
theorem cB_app (L M : List Block) : cB (L ++ M) = cB L + cB M := by simp [cB]
theorem cB_mem {b : Block} {L : List Block} (h : b ∈ L) : b.Pages.length ≤ cB L := by
  induction L with
  | nil => simp at h
  | cons x L ih =>
    rw [cB_cons]
    rcases List.mem_cons.mp h with rfl | h
    · omega
    · have := ih h; omega
theorem cB_take (L : List Block) (i : Nat) : cB (L.take i) ≤ cB L := by
  have h := cB_app (L.take i) (L.drop i)
  rw [List.take_append_drop] at h
  omega
theorem cB_take1 (L : List Block) (i : Nat) (h : i < L.length) : cB (L.take (i + 1)) = cB (L.take i) + L[i].Pages.length := by
  rw [List.take_succ_eq_append_getElem h, cB_app, cB_cons, cB_nil]; omega
theorem Fit.pg {L : List Block} (h : Fit L) {b : Block} (hb : b ∈ L) : b.Pages.length ≤ 1048576 := by have := cB_mem hb; unfold Fit at h; omega
theorem Fit.len {L : List Block} (h : Fit L) : L.length ≤ 1048576 := by unfold Fit at h; omega

/-! ### Valid arrays -/
theorem szE (x : ByteArray) : (x.toList == (⟨#[]⟩ : ByteArray).toList) = true ↔ x.size = 0 := by
  rw [str_eq, decide_eq_true_eq]
  constructor
  · intro h; rw [h]; rfl
  · intro h
    apply bytes_ext
    have h2 := bl_len x
    rw [h] at h2
    exact List.eq_nil_of_length_eq_zero h2
theorem inR_iff (n lo hi : Int) : inR n lo hi = true ↔ lo ≤ n ∧ n ≤ hi := by
  unfold inR
  simp
def PgOk (P : List ByteArray) (nx : Int) : Prop := ∀ (i : Nat) (h : i < P.length), P[i].size = 0 ∨ (P[i].size = 91 ∧ (i : Int) < nx)
def BOk (P : Int) (b : Block) : Prop := (0 ≤ b.Erases ∧ b.Erases ≤ 1000) ∧ (0 ≤ b.Next ∧ b.Next ≤ P) ∧ (b.Pages.length : Int) = P ∧ PgOk b.Pages b.Next
theorem pl_sBlk (b : Block) (P : Int) (hb : b.Pages.length ≤ 1048576) : ∃ y, p_spec_l06Block b P = some y ∧ (y = true ↔ BOk P b) := by
  unfold p_spec_l06Block
  by_cases h1 : inR b.Erases 0 1000 = true
  rotate_left
  · rw [if_neg h1]; exact ⟨_, rfl, by simp, fun h => absurd ((inR_iff _ _ _).mpr h.1) h1⟩
  by_cases h2 : inR b.Next 0 P = true
  rotate_left
  · rw [if_pos h1, if_neg h2]; exact ⟨_, rfl, by simp, fun h => absurd ((inR_iff _ _ _).mpr h.2.1) h2⟩
  by_cases h3 : (b.Pages.length : Int) = P
  rotate_left
  · rw [if_pos h1, if_pos h2, if_pos h3]; exact ⟨_, rfl, by simp, fun h => absurd h.2.2.1 h3⟩
  rw [if_pos h1, if_pos h2, if_neg (by simpa using h3), grd_pos (by omega)]
  refine forI_ex (fun i _ => ∀ (j : Nat) (hj : j < b.Pages.length), j < i → b.Pages[j].size = 0 ∨ (b.Pages[j].size = 91 ∧ (j : Int) < b.Next)) (fun i hi s hs nx hnx => ?_) (fun s hs => ?_) () (fun j hj h => by omega)
  · have hi' : i < b.Pages.length := by omega
    have ext : (b.Pages[i].size = 0 ∨ (b.Pages[i].size = 91 ∧ (i : Int) < b.Next)) → ∃ r, nx () = some r ∧ (r = true ↔ BOk P b) := fun hc => hnx () fun j hj hlt => by
      by_cases hji : j = i
      · subst hji; exact hc
      · exact hs j hj (by omega)
    have no : ¬ (b.Pages[i].size = 0 ∨ (b.Pages[i].size = 91 ∧ (i : Int) < b.Next)) → ∃ r, some false = some r ∧ (r = true ↔ BOk P b) := fun hc => ⟨_, rfl, by simp, fun h => absurd (h.2.2.2 i hi') hc⟩
    rw [getK_lt hi']
    by_cases c1 : (ByteArray.size b.Pages[i] : Int) = 0
    · rw [if_neg (by simpa using c1)]; exact ext (.inl (by omega))
    rw [if_pos c1]
    by_cases c2 : (ByteArray.size b.Pages[i] : Int) = 91
    rotate_left
    · rw [if_pos c2]; exact no (by omega)
    rw [if_neg (by simpa using c2)]
    by_cases c3 : (i : Int) ≥ b.Next
    · rw [if_pos c3]; exact no (by omega)
    · rw [if_neg c3]; exact ext (.inr ⟨by omega, by omega⟩)
  · exact ⟨_, rfl, fun _ => ⟨(inR_iff _ _ _).mp h1, (inR_iff _ _ _).mp h2, h3, fun i hi => hs i hi (by omega)⟩, fun _ => rfl⟩
theorem pl_iBlk (b : Block) (g : Geometry) (hb : b.Pages.length ≤ 1048576) : ∃ y, p_impl_Geometry_blockOk g b = some y ∧ (y = true ↔ BOk g.Pages b) := by
  unfold p_impl_Geometry_blockOk
  by_cases h1 : inR b.Erases 0 1000 = true
  rotate_left
  · rw [if_neg h1]; exact ⟨_, rfl, by simp, fun h => absurd ((inR_iff _ _ _).mpr h.1) h1⟩
  by_cases h2 : inR b.Next 0 g.Pages = true
  rotate_left
  · rw [if_pos h1, if_neg h2]; exact ⟨_, rfl, by simp, fun h => absurd ((inR_iff _ _ _).mpr h.2.1) h2⟩
  by_cases h3 : (b.Pages.length : Int) = g.Pages
  rotate_left
  · rw [if_pos h1, if_pos h2, if_pos h3]; exact ⟨_, rfl, by simp, fun h => absurd h.2.2.1 h3⟩
  rw [if_pos h1, if_pos h2, if_neg (by simpa using h3), grd_pos (by omega)]
  refine forK_ex (fun i _ => ∀ (j : Nat) (hj : j < b.Pages.length), j < i → b.Pages[j].size = 0 ∨ (b.Pages[j].size = 91 ∧ (j : Int) < b.Next)) (fun i hi' s hs nx hnx => ?_) (fun s hs => ?_) () (fun j hj h => by omega)
  · have ext : (b.Pages[i].size = 0 ∨ (b.Pages[i].size = 91 ∧ (i : Int) < b.Next)) → ∃ r, nx () = some r ∧ (r = true ↔ BOk g.Pages b) := fun hc => hnx () fun j hj hlt => by
      by_cases hji : j = i
      · subst hji; exact hc
      · exact hs j hj (by omega)
    have no : ¬ (b.Pages[i].size = 0 ∨ (b.Pages[i].size = 91 ∧ (i : Int) < b.Next)) → ∃ r, some false = some r ∧ (r = true ↔ BOk g.Pages b) := fun hc => ⟨_, rfl, by simp, fun h => absurd (h.2.2.2 i hi') hc⟩
    by_cases c1 : (b.Pages[i].toList == (⟨#[]⟩ : ByteArray).toList) = true
    · rw [if_pos c1]; exact ext (.inl ((szE _).mp c1))
    rw [if_neg c1]
    have c1' : ¬ b.Pages[i].size = 0 := fun h => c1 ((szE _).mpr h)
    by_cases c2 : (ByteArray.size b.Pages[i] : Int) = 91
    rotate_left
    · rw [if_pos c2]; exact no (by omega)
    rw [if_neg (by simpa using c2)]
    by_cases c3 : (i : Int) ≥ b.Next
    · rw [if_pos c3]; exact no (by omega)
    · rw [if_neg c3]; exact ext (.inr ⟨by omega, by omega⟩)
  · exact ⟨_, rfl, fun _ => ⟨(inR_iff _ _ _).mp h1, (inR_iff _ _ _).mp h2, h3, fun i hi => hs i hi hi⟩, fun _ => rfl⟩
def GOk (g : Geometry) : Prop := (2 ≤ g.Dies ∧ g.Dies ≤ 3) ∧ (4 ≤ g.Blocks ∧ g.Blocks ≤ 12) ∧ (g.Pages = 8 ∨ g.Pages = 16)
theorem pl_sGeo (g : Geometry) : ∃ y, p_spec_ValidGeometry g = some y ∧ (y = true ↔ GOk g) := by
  unfold p_spec_ValidGeometry GOk
  rw [← inR_iff, ← inR_iff]
  cases h1 : inR g.Dies 2 3 <;> cases h2 : inR g.Blocks 4 12 <;> by_cases h3 : g.Pages = 8 <;> simp [h3]
theorem pl_iGeo (g : Geometry) : p_impl_ValidGeometry g = p_spec_ValidGeometry g := rfl
def LOk (P : Int) (L : List Block) : Prop := ∀ b ∈ L, BOk P b
def VF (f : Flash) : Prop := GOk f.Geo ∧ (f.Blocks.length : Int) = f.Geo.Dies * f.Geo.Blocks ∧ (-1 ≤ f.Fuse ∧ f.Fuse ≤ 1000000) ∧ (0 ≤ f.Keep ∧ f.Keep ≤ 91) ∧ 0 ≤ f.Ops ∧ LOk f.Geo.Pages f.Blocks
theorem GOk.all {g : Geometry} (h : GOk g) : 0 < g.Dies * g.Blocks ∧ g.Dies * g.Blocks ≤ 36 := by
  obtain ⟨⟨h1, h2⟩, ⟨h3, h4⟩, _⟩ := h
  have a1 : g.Dies * g.Blocks ≤ 3 * g.Blocks := Int.mul_le_mul_of_nonneg_right h2 (by omega)
  have a2 : 2 * g.Blocks ≤ g.Dies * g.Blocks := Int.mul_le_mul_of_nonneg_right h1 (by omega)
  omega
theorem GOk.wrap {g : Geometry} (h : GOk g) : IntKind.i64.wrap (g.Dies * g.Blocks) = g.Dies * g.Blocks := by
  have := h.all
  exact wrap_sm _ (by omega) (by omega)
theorem pl_sVF (f : Flash) (hF : Fit f.Blocks) : ∃ y, p_spec_ValidFlash f = some y ∧ (y = true ↔ VF f) := by
  unfold p_spec_ValidFlash
  obtain ⟨y, e, hy⟩ := pl_sGeo f.Geo
  rw [e, callK_some]
  by_cases h0 : y = true
  rotate_left
  · rw [if_neg h0]; exact ⟨_, rfl, by simp, fun h => absurd (hy.mpr h.1) h0⟩
  have hg := hy.mp h0
  rw [if_pos h0, hg.wrap]
  by_cases h1 : (f.Blocks.length : Int) = f.Geo.Dies * f.Geo.Blocks
  rotate_left
  · rw [if_pos h1]; exact ⟨_, rfl, by simp, fun h => absurd h.2.1 h1⟩
  rw [if_neg (by simpa using h1)]
  by_cases h2 : inR f.Fuse (-1) 1000000 = true
  rotate_left
  · rw [if_neg h2]; exact ⟨_, rfl, by simp, fun h => absurd ((inR_iff _ _ _).mpr h.2.2.1) h2⟩
  rw [if_pos h2]
  by_cases h3 : inR f.Keep 0 91 = true
  rotate_left
  · rw [if_neg h3]; exact ⟨_, rfl, by simp, fun h => absurd ((inR_iff _ _ _).mpr h.2.2.2.1) h3⟩
  rw [if_pos h3]
  by_cases h4 : f.Ops < 0
  · rw [if_pos h4]; exact ⟨_, rfl, by simp, fun h => absurd h.2.2.2.2.1 (by omega)⟩
  have hl := hF.len
  rw [if_neg h4, grd_pos (by omega)]
  refine forK_ex (fun i _ => ∀ (j : Nat) (hj : j < f.Blocks.length), j < i → BOk f.Geo.Pages f.Blocks[j]) (fun i hi s hs nx hnx => ?_) (fun s hs => ?_) () (fun j hj h => by omega)
  · obtain ⟨z, e2, hz⟩ := pl_sBlk f.Blocks[i] f.Geo.Pages (hF.pg (List.getElem_mem hi))
    rw [e2, callK_some]
    by_cases hz0 : z = true
    · rw [if_pos hz0]
      exact hnx () fun j hj hlt => by
        by_cases hji : j = i
        · subst hji; exact hz.mp hz0
        · exact hs j hj (by omega)
    · rw [if_neg hz0]; exact ⟨_, rfl, by simp, fun h => absurd (hz.mpr (h.2.2.2.2.2 _ (List.getElem_mem hi))) hz0⟩
  · refine ⟨_, rfl, fun _ => ⟨hg, h1, (inR_iff _ _ _).mp h2, (inR_iff _ _ _).mp h3, by omega, fun b hb => ?_⟩, fun _ => rfl⟩
    obtain ⟨j, hj, rfl⟩ := List.mem_iff_getElem.mp hb
    exact hs j hj hj
theorem pl_iVF (f : Flash) (hF : Fit f.Blocks) : ∃ y, p_impl_ValidFlash f = some y ∧ (y = true ↔ VF f) := by
  unfold p_impl_ValidFlash p_impl_Geometry_all
  obtain ⟨y, e, hy⟩ := pl_sGeo f.Geo
  rw [pl_iGeo, e, callK_some, callK_some]
  by_cases h0 : y = true
  rotate_left
  · rw [if_neg h0]; exact ⟨_, rfl, by simp, fun h => absurd (hy.mpr h.1) h0⟩
  have hg := hy.mp h0
  rw [if_pos h0, hg.wrap]
  by_cases h1 : (f.Blocks.length : Int) = f.Geo.Dies * f.Geo.Blocks
  rotate_left
  · rw [if_pos h1]; exact ⟨_, rfl, by simp, fun h => absurd h.2.1 h1⟩
  rw [if_neg (by simpa using h1)]
  by_cases h2 : inR f.Fuse (-1) 1000000 = true
  rotate_left
  · rw [if_neg h2]; exact ⟨_, rfl, by simp, fun h => absurd ((inR_iff _ _ _).mpr h.2.2.1) h2⟩
  rw [if_pos h2]
  by_cases h3 : inR f.Keep 0 91 = true
  rotate_left
  · rw [if_neg h3]; exact ⟨_, rfl, by simp, fun h => absurd ((inR_iff _ _ _).mpr h.2.2.2.1) h3⟩
  rw [if_pos h3]
  by_cases h4 : f.Ops < 0
  · rw [if_pos h4]; exact ⟨_, rfl, by simp, fun h => absurd h.2.2.2.2.1 (by omega)⟩
  have hl := hF.len
  have hix : ∃ r, p_slices_IndexFunc_impl_ValidFlash_c1 f.Blocks f = some r ∧ ((r ≥ 0) ↔ ¬ LOk f.Geo.Pages f.Blocks) := by
    unfold p_slices_IndexFunc_impl_ValidFlash_c1 p_impl_ValidFlash_c1
    rw [grd_pos (by omega)]
    refine forK_ex (fun i _ => ∀ (j : Nat) (hj : j < f.Blocks.length), j < i → BOk f.Geo.Pages f.Blocks[j]) (fun i hi s hs nx hnx => ?_) (fun s hs => ?_) () (fun j hj h => by omega)
    · obtain ⟨z, e2, hz⟩ := pl_iBlk f.Blocks[i] f.Geo (hF.pg (List.getElem_mem hi))
      rw [e2, callK_some, callK_some]
      cases z with
      | true =>
        rw [if_neg (by simp)]
        exact hnx () fun j hj hlt => by
          by_cases hji : j = i
          · subst hji; exact hz.mp rfl
          · exact hs j hj (by omega)
      | false =>
        rw [if_pos (by simp)]
        exact ⟨_, rfl, fun _ h => absurd (hz.mpr (h _ (List.getElem_mem hi))) (by simp), fun _ => by omega⟩
    · refine ⟨_, rfl, fun h => absurd h (by omega), fun h => absurd (fun b hb => ?_) h⟩
      obtain ⟨j, hj, rfl⟩ := List.mem_iff_getElem.mp hb
      exact hs j hj hj
  obtain ⟨r, er, hr⟩ := hix
  unfold p_slices_ContainsFunc_impl_ValidFlash_c1
  rw [if_neg h4, er]
  simp only [callK_some]
  refine ⟨_, rfl, ?_⟩
  rw [Bool.not_eq_true', decide_eq_false_iff_not, hr, Classical.not_not]
  exact ⟨fun h => ⟨hg, h1, (inR_iff _ _ _).mp h2, (inR_iff _ _ _).mp h3, by omega, h⟩, fun h => h.2.2.2.2.2⟩

/-! ### Faults -/
theorem forK_two {α σ R R2 : Type} {l : List α} {f : Nat → α → σ → (σ → Option R) → Option R} {g : Nat → α → σ → (σ → Option R2) → Option R2} (J : Nat → σ → Prop)
    (round : ∀ (i : Nat) (hi : i < l.length) (s : σ), J i s → ∃ s', (∀ nx, f i l[i] s nx = nx s') ∧ (∀ nx, g i l[i] s nx = nx s') ∧ J (i + 1) s') (s : σ) (h0 : J 0 s) :
    ∃ s', J l.length s' ∧ (∀ k, forK l f s k = k s') ∧ (∀ k, forK l g s k = k s') := by
  have go : ∀ (n i : Nat) (s : σ), i ≤ l.length → l.length - i = n → J i s → ∃ s', J l.length s' ∧ (∀ k, forGo f k i (l.drop i) s = k s') ∧ (∀ k, forGo g k i (l.drop i) s = k s') := by
    intro n
    induction n with
    | zero =>
      intro i s h1 h2 h3
      obtain rfl : i = l.length := by omega
      refine ⟨s, h3, fun k => ?_, fun k => ?_⟩ <;> rw [List.drop_length] <;> rfl
    | succ n ih =>
      intro i s h1 h2 h3
      have hi : i < l.length := by omega
      obtain ⟨s1, g1, g2, g3⟩ := round i hi s h3
      obtain ⟨s', q1, q2, q3⟩ := ih (i + 1) s1 (by omega) (by omega) g3
      refine ⟨s', q1, fun k => ?_, fun k => ?_⟩
      · rw [List.drop_eq_getElem_cons hi, forGo_cons, g1]; exact q2 k
      · rw [List.drop_eq_getElem_cons hi, forGo_cons, g2]; exact q3 k
  exact go l.length 0 s (Nat.zero_le _) rfl h0
theorem forI_two {σ R R2 : Type} {n : Int} {f : Nat → σ → (σ → Option R) → Option R} {g : Nat → σ → (σ → Option R2) → Option R2} (J : Nat → σ → Prop)
    (round : ∀ (i : Nat) (hi : (i : Int) < n) (s : σ), J i s → ∃ s', (∀ nx, f i s nx = nx s') ∧ (∀ nx, g i s nx = nx s') ∧ J (i + 1) s') (s : σ) (h0 : J 0 s) :
    ∃ s', J n.toNat s' ∧ (∀ k, forI n f s k = k s') ∧ (∀ k, forI n g s k = k s') := by
  obtain ⟨s', q1, q2, q3⟩ := forK_two (l := List.range n.toNat) (f := fun i _ s nx => f i s nx) (g := fun i _ s nx => g i s nx) J (fun i hi s hs => round i (by rw [List.length_range] at hi; omega) s hs) s h0
  exact ⟨s', by rwa [List.length_range] at q1, q2, q3⟩
theorem u64_sm (n : Int) (h1 : 0 ≤ n) (h2 : n ≤ 9223372036854775807) : IntKind.u64.wrap n = n := by
  have : IntKind.u64.wrap n = n % 18446744073709551616 := rfl
  omega
/-- One bit of a page turned. -/
theorem pl_bit (x : ByteArray) (bit : Int) (hx : x.size = 91) (hb : 0 ≤ bit ∧ bit ≤ 727) : ∃ y, p_spec_FlipPageBit x bit = some (y, 0) ∧ p_impl_flippedBit x bit = some y ∧ y.size = 91 := by
  have hq : Int.tdiv bit 8 = bit / 8 := Int.tdiv_eq_ediv_of_nonneg hb.1
  have hr : Int.tmod bit 8 = bit % 8 := Int.tmod_eq_emod_of_nonneg hb.1
  have hw : IntKind.i64.wrap (Int.tdiv bit 8) = bit / 8 := by rw [hq]; exact wrap_sm _ (by omega) (by omega)
  have hu : IntKind.u64.wrap (Int.tmod bit 8) = Int.tmod bit 8 := u64_sm _ (by omega) (by omega)
  have hl : (bytesL x).length = 91 := by unfold bytesL; rw [List.length_map, Array.length_toList]; exact hx
  unfold p_spec_FlipPageBit p_impl_flippedBit
  rw [if_neg (by omega), if_pos ((inR_iff _ _ _).mpr hb), grd_pos (appOk_of _ _ (by omega)), grd_pos (appOk_of _ _ (by omega)), hw, hu, getK_in (by omega) (by omega), getK_in (by omega) (by omega), grd_pos (by omega), grd_pos (by omega)]
  refine ⟨_, rfl, rfl, ?_⟩
  rw [bytesOf_rU, size_ofL, List.length_map, List.length_set, hl]
theorem LOk.set {P : Int} {L : List Block} (h : LOk P L) {i : Nat} {b : Block} (hb : BOk P b) : LOk P (L.set i b) := fun x hx => (List.mem_or_eq_of_mem_set hx).elim (h x) fun e => e ▸ hb
/-- One bit of a page of the array turned. -/
theorem pl_flip (a0 a1 a2 a3 a4 : Int) (a5 : Bool) (a6 : Int) (P blk pg bit : Int) (L : List Block) (hL : LOk P L) (h1 : 0 ≤ blk ∧ blk < L.length) (h2 : 0 ≤ pg ∧ pg < P) (h3 : 0 ≤ bit ∧ bit ≤ 727) :
    ∃ L', p_spec_l08Flip a0 a1 a2 a3 a4 a5 a6 blk pg bit L = some L' ∧ p_impl_Flash_flip blk pg bit a0 a1 a2 a3 a4 a5 a6 L = some L' ∧ LOk P L' ∧ L'.length = L.length := by
  have hi : blk.toNat < L.length := by omega
  obtain ⟨b, hb⟩ : ∃ b, L[blk.toNat] = b := ⟨_, rfl⟩
  have hbk : BOk P b := hL b (by rw [← hb]; exact List.getElem_mem hi)
  obtain ⟨k1, k2, k3, k4⟩ := hbk
  have hp : pg.toNat < b.Pages.length := by omega
  obtain ⟨x, hx⟩ : ∃ x, b.Pages[pg.toNat] = x := ⟨_, rfl⟩
  have hxk := k4 pg.toNat hp
  rw [hx] at hxk
  unfold p_spec_l08Flip p_impl_Flash_flip
  rw [getK_in h1.1 h1.2, getK_in h1.1 h1.2]
  simp only [hb]
  rw [getK_in h2.1 (by omega), getK_in h2.1 (by omega)]
  simp only [hx]
  by_cases c : x.size = 0
  · have c3 := (szE x).mpr c
    refine ⟨L, ?_, by rw [if_pos c3], hL, rfl⟩
    by_cases c2 : pg ≥ b.Next
    · rw [if_pos c2]
    · rw [if_neg c2, if_pos c3]
  · obtain ⟨hs, hlt⟩ : x.size = 91 ∧ (pg.toNat : Int) < b.Next := hxk.resolve_left c
    have c3 : ¬ (x.toList == (⟨#[]⟩ : ByteArray).toList) = true := fun h => c ((szE x).mp h)
    obtain ⟨y, e1, e2, e3⟩ := pl_bit x bit hs h3
    rw [if_neg (by omega), if_neg c3, if_neg c3, e1, e2]
    refine ⟨_, rfl, rfl, hL.set ⟨k1, k2, by simpa using k3, fun j hj => ?_⟩, by simp⟩
    simp only [List.getElem_set]
    split
    · rename_i h; subst h; exact .inr ⟨e3, hlt⟩
    · exact k4 j (by simpa using hj)
/-- A fault that fits the geometry. -/
def FPr (g : Geometry) (x : Fault) : Prop :=
  ((x.Kind = 1 ∨ x.Kind = 2) ∧ (0 ≤ x.Block ∧ x.Block < g.Dies * g.Blocks) ∧ (0 ≤ x.Page ∧ x.Page < g.Pages) ∧ (0 ≤ x.Bit ∧ x.Bit ≤ 727)) ∨
  (x.Kind = 3 ∧ (0 ≤ x.Block ∧ x.Block < g.Dies * g.Blocks) ∧ (0 ≤ x.Bit ∧ x.Bit ≤ 727)) ∨
  (x.Kind = 4 ∧ (0 ≤ x.Block ∧ x.Block < g.Dies * g.Blocks)) ∨
  (x.Kind = 5 ∧ (0 ≤ x.Page ∧ x.Page ≤ 1000000) ∧ (0 ≤ x.Bit ∧ x.Bit ≤ 91))
theorem pl_fault (g : Geometry) (hg : GOk g) (x : Fault) : ∃ y, p_spec_ValidFault g x = some y ∧ p_impl_faultOk g x = some y ∧ (y = true → FPr g x) := by
  obtain ⟨z, e, hz⟩ := pl_sGeo g
  have hz1 := hz.mpr hg
  have ha := hg.all
  unfold p_spec_ValidFault p_impl_faultOk p_impl_Geometry_all
  rw [e]
  simp only [callK_some, hz1, if_true, hg.wrap]
  have hw : IntKind.i64.wrap (g.Dies * g.Blocks - 1) = g.Dies * g.Blocks - 1 := wrap_sm _ (by omega) (by omega)
  have hw2 : IntKind.i64.wrap (g.Pages - 1) = g.Pages - 1 := wrap_sm _ (by have := hg.2.2; omega) (by have := hg.2.2; omega)
  simp only [hw, hw2]
  unfold FPr
  have ib : inR x.Block 0 (g.Dies * g.Blocks - 1) = true ↔ 0 ≤ x.Block ∧ x.Block ≤ g.Dies * g.Blocks - 1 := inR_iff _ _ _
  have ip : inR x.Page 0 (g.Pages - 1) = true ↔ 0 ≤ x.Page ∧ x.Page ≤ g.Pages - 1 := inR_iff _ _ _
  have it : inR x.Bit 0 727 = true ↔ 0 ≤ x.Bit ∧ x.Bit ≤ 727 := inR_iff _ _ _
  have iq : inR x.Page 0 1000000 = true ↔ 0 ≤ x.Page ∧ x.Page ≤ 1000000 := inR_iff _ _ _
  have iu : inR x.Bit 0 91 = true ↔ 0 ≤ x.Bit ∧ x.Bit ≤ 91 := inR_iff _ _ _
  generalize inR x.Block 0 (g.Dies * g.Blocks - 1) = b1 at *
  generalize inR x.Page 0 (g.Pages - 1) = p1 at *
  generalize inR x.Bit 0 727 = t1 at *
  generalize inR x.Page 0 1000000 = q1 at *
  generalize inR x.Bit 0 91 = u1 at *
  by_cases k1 : x.Kind = 1
  · simp only [eq_true k1, if_true]
    cases b1 <;> cases p1 <;> simp only [if_true, if_false, Bool.false_eq_true] <;> first | exact ⟨_, rfl, rfl, fun h => by simp at h⟩ | skip
    refine ⟨_, rfl, rfl, fun h => .inl ⟨.inl trivial, ?_, ?_, it.mp h⟩⟩
    · have := ib.mp rfl; omega
    · have := ip.mp rfl; omega
  by_cases k2 : x.Kind = 2
  · simp only [eq_false k1, eq_true k2, if_true, if_false]
    cases b1 <;> cases p1 <;> simp only [if_true, if_false, Bool.false_eq_true] <;> first | exact ⟨_, rfl, rfl, fun h => by simp at h⟩ | skip
    refine ⟨_, rfl, rfl, fun h => .inl ⟨.inr trivial, ?_, ?_, it.mp h⟩⟩
    · have := ib.mp rfl; omega
    · have := ip.mp rfl; omega
  by_cases k3 : x.Kind = 3
  · simp only [eq_false k1, eq_false k2, eq_true k3, if_true, if_false]
    cases b1
    · exact ⟨_, rfl, rfl, fun h => by simp at h⟩
    have hb := ib.mp rfl
    by_cases c2 : x.Page = 0
    · cases t1
      · exact ⟨false, rfl, by rw [if_pos rfl, if_pos c2], fun h => by simp at h⟩
      · exact ⟨true, by simp [c2], by rw [if_pos rfl, if_pos c2], fun _ => .inr (.inl ⟨trivial, by omega, it.mp rfl⟩)⟩
    · cases t1
      · exact ⟨false, rfl, by rw [if_pos rfl, if_neg c2], fun h => by simp at h⟩
      · exact ⟨false, by simp [c2], by rw [if_pos rfl, if_neg c2], fun h => by simp at h⟩
  by_cases k4 : x.Kind = 4
  · simp only [eq_false k1, eq_false k2, eq_false k3, eq_true k4, if_true, if_false]
    cases b1
    · exact ⟨_, rfl, rfl, fun h => by simp at h⟩
    have hb := ib.mp rfl
    by_cases c2 : x.Page = 0
    · exact ⟨_, by rw [if_pos rfl, if_pos c2], by rw [if_pos rfl, if_pos c2], fun _ => .inr (.inr (.inl ⟨trivial, by omega⟩))⟩
    · exact ⟨false, by rw [if_pos rfl, if_neg c2], by rw [if_pos rfl, if_neg c2], fun h => by simp at h⟩
  by_cases k5 : x.Kind = 5
  · simp only [eq_false k1, eq_false k2, eq_false k3, eq_false k4, eq_true k5, if_true, if_false]
    by_cases c1 : x.Block = 0
    · cases q1
      · exact ⟨false, by rw [if_pos c1]; rfl, by rw [if_pos c1]; rfl, fun h => by simp at h⟩
      · exact ⟨_, by rw [if_pos c1, if_pos rfl], by rw [if_pos c1, if_pos rfl], fun h => .inr (.inr (.inr ⟨trivial, iq.mp rfl, iu.mp h⟩))⟩
    · exact ⟨false, by rw [if_neg c1], by rw [if_neg c1], fun h => by simp at h⟩
  · simp only [eq_false k1, eq_false k2, eq_false k3, eq_false k4, eq_false k5, if_false]
    exact ⟨_, rfl, rfl, fun h => by simp at h⟩

theorem pl_step (D B P fu ke : Int) (off : Bool) (ops : Int) (x : Fault) (L : List Block) (hg : GOk ⟨D, B, P⟩) (hn : (L.length : Int) = D * B) (hL : LOk P L) (hx : FPr ⟨D, B, P⟩ x) :
    ∃ fu' ke' L', p_spec_l08Apply D B P fu ke off ops x L = some (fu', ke', L') ∧ LOk P L' ∧ L'.length = L.length ∧
      ((x.Kind ≠ 5 ∨ off = false) → p_impl_Flash_fault x D B P fu ke off ops L = some (0, fu', ke', off, L')) ∧
      (x.Kind = 5 → off = true → ∃ r, p_impl_Flash_fault x D B P fu ke off ops L = some r ∧ r.1 = 8) := by
  have hP : P = 8 ∨ P = 16 := hg.2.2
  have flip := fun (M : List Block) (blk pg bit : Int) (hM : LOk P M) h1 h2 h3 => pl_flip D B P fu ke off ops P blk pg bit M hM h1 h2 h3
  have fin : ∀ {fu' ke' : Int} {L' : List Block}, x.Kind ≠ 5 → p_spec_l08Apply D B P fu ke off ops x L = some (fu', ke', L') → LOk P L' → L'.length = L.length → p_impl_Flash_fault x D B P fu ke off ops L = some (0, fu', ke', off, L') → ∃ fu' ke' L', p_spec_l08Apply D B P fu ke off ops x L = some (fu', ke', L') ∧ LOk P L' ∧ L'.length = L.length ∧
      ((x.Kind ≠ 5 ∨ off = false) → p_impl_Flash_fault x D B P fu ke off ops L = some (0, fu', ke', off, L')) ∧
      (x.Kind = 5 → off = true → ∃ r, p_impl_Flash_fault x D B P fu ke off ops L = some r ∧ r.1 = 8) :=
    fun h5 h1 h2 h3 h4 => ⟨_, _, _, h1, h2, h3, fun _ => h4, fun h => absurd h h5⟩
  rcases hx with ⟨k, hb, hp, ht⟩ | ⟨k, hb, ht⟩ | ⟨k, hb⟩ | ⟨k, hp, ht⟩
  · rcases k with k | k
    · obtain ⟨L', e1, e2, e3, e4⟩ := flip L x.Block x.Page x.Bit hL (by rw [hn]; exact hb) hp ht
      refine fin (by omega) (fu' := fu) (ke' := ke) (L' := L') ?_ e3 e4 ?_
      · unfold p_spec_l08Apply; rw [if_pos k, e1]; rfl
      · unfold p_impl_Flash_fault; rw [if_pos k, e2]; rfl
    · obtain ⟨L', q1, q2, q3⟩ := forI_two (n := P) (R := Int × Int × List Block) (R2 := Int × Int × Int × Bool × List Block)
        (f := fun (i9 : Nat) (v10 : List Block) (nx11 : (List Block) → Option _) =>
          if ¬ (i9 : Int) = x.Page then
            callK (p_spec_l08Flip D B P fu ke off ops x.Block (i9 : Int) x.Bit v10) fun y13 =>
            nx11 y13
          else
            nx11 v10)
        (g := fun (i9 : Nat) (v10 : List Block) (nx11 : (List Block) → Option _) =>
          if ¬ (i9 : Int) = x.Page then
            callK (p_impl_Flash_flip x.Block (i9 : Int) x.Bit D B P fu ke off ops v10) fun y13 =>
            nx11 y13
          else
            nx11 v10) (fun _ M => LOk P M ∧ M.length = L.length) (fun i hi M hM => by
          by_cases c : (i : Int) = x.Page
          · exact ⟨M, fun nx => by rw [if_neg (by simpa using c)], fun nx => by rw [if_neg (by simpa using c)], hM⟩
          · obtain ⟨M', e1, e2, e3, e4⟩ := flip M x.Block i x.Bit hM.1 (by rw [hM.2, hn]; exact hb) (by omega) ht
            exact ⟨M', fun nx => by rw [if_pos c, e1, callK_some], fun nx => by rw [if_pos c, e2, callK_some], e3, e4.trans hM.2⟩) L ⟨hL, rfl⟩
      refine fin (by omega) (fu' := fu) (ke' := ke) (L' := L') ?_ q1.1 q1.2 ?_
      · unfold p_spec_l08Apply; rw [if_neg (by omega), if_pos k, grd_pos (by omega)]; exact q2 _
      · unfold p_impl_Flash_fault; rw [if_neg (by omega), if_pos k, grd_pos (by omega)]; exact q3 _
  · obtain ⟨L', q1, q2, q3⟩ := forI_two (n := P) (R := Int × Int × List Block) (R2 := Int × Int × Int × Bool × List Block)
        (f := fun (i19 : Nat) (v20 : List Block) (nx21 : (List Block) → Option _) =>
          callK (p_spec_l08Flip D B P fu ke off ops x.Block (i19 : Int) (Int.tmod (IntKind.i64.wrap (x.Bit + (IntKind.i64.wrap (8 * (i19 : Int))))) 728) v20) fun y22 =>
          nx21 y22)
        (g := fun (i19 : Nat) (v20 : List Block) (nx21 : (List Block) → Option _) =>
          callK (p_impl_Flash_flip x.Block (i19 : Int) (Int.tmod (IntKind.i64.wrap (x.Bit + (IntKind.i64.wrap (8 * (i19 : Int))))) 728) D B P fu ke off ops v20) fun y22 =>
          nx21 y22) (fun _ M => LOk P M ∧ M.length = L.length) (fun i hi M hM => by
          have hw : IntKind.i64.wrap (8 * (i : Int)) = 8 * (i : Int) := wrap_sm _ (by omega) (by omega)
          have hw2 : IntKind.i64.wrap (x.Bit + 8 * (i : Int)) = x.Bit + 8 * (i : Int) := wrap_sm _ (by omega) (by omega)
          have hm : Int.tmod (x.Bit + 8 * (i : Int)) 728 = (x.Bit + 8 * (i : Int)) % 728 := Int.tmod_eq_emod_of_nonneg (by omega)
          obtain ⟨M', e1, e2, e3, e4⟩ := flip M x.Block i (Int.tmod (IntKind.i64.wrap (x.Bit + (IntKind.i64.wrap (8 * (i : Int))))) 728) hM.1 (by rw [hM.2, hn]; exact hb) (by omega) (by rw [hw, hw2, hm]; omega)
          exact ⟨M', fun nx => by rw [e1, callK_some], fun nx => by rw [e2, callK_some], e3, e4.trans hM.2⟩) L ⟨hL, rfl⟩
    refine fin (by omega) (fu' := fu) (ke' := ke) (L' := L') ?_ q1.1 q1.2 ?_
    · unfold p_spec_l08Apply; rw [if_neg (by omega), if_neg (by omega), if_pos k, grd_pos (by omega)]; exact q2 _
    · unfold p_impl_Flash_fault; rw [if_neg (by omega), if_neg (by omega), if_pos k, grd_pos (by omega)]; exact q3 _
  · have hb' : x.Block < L.length := by rw [hn]; exact hb.2
    have hi : x.Block.toNat < L.length := by omega
    have hbk := hL _ (List.getElem_mem hi)
    refine fin (by omega) (fu' := fu) (ke' := ke) (L' := L.set (Int.toNat x.Block) ⟨L[x.Block.toNat].Erases, L[x.Block.toNat].Next, true, L[x.Block.toNat].Pages⟩) ?_ (hL.set ⟨hbk.1, hbk.2.1, hbk.2.2.1, hbk.2.2.2⟩) (by simp) ?_
    · unfold p_spec_l08Apply; rw [if_neg (by omega), if_neg (by omega), if_neg (by omega), if_pos k, getK_in hb.1 hb']
    · unfold p_impl_Flash_fault; rw [if_neg (by omega), if_neg (by omega), if_neg (by omega), if_pos k, getK_in hb.1 hb']
  · refine ⟨x.Page, x.Bit, L, ?_, hL, rfl, fun h => ?_, fun _ h => ?_⟩
    · unfold p_spec_l08Apply; rw [if_neg (by omega), if_neg (by omega), if_neg (by omega), if_neg (by omega), if_pos k]
    · have hoff : off = false := h.resolve_left (by simp [k])
      unfold p_impl_Flash_fault p_impl_Flash_arm
      rw [if_neg (by omega), if_neg (by omega), if_neg (by omega), if_neg (by omega), if_pos k, hoff, if_neg (by simp), if_pos ((inR_iff _ _ _).mpr (by omega)), if_pos ((inR_iff _ _ _).mpr ht)]
      rfl
    · unfold p_impl_Flash_fault p_impl_Flash_arm
      rw [if_neg (by omega), if_neg (by omega), if_neg (by omega), if_neg (by omega), if_pos k, if_pos h]
      exact ⟨_, rfl, rfl⟩
theorem any_notF {α : Type} (p : α → Bool) (l : List α) : (l.any fun x => !p x) = !l.all p := by
  induction l with
  | nil => rfl
  | cons a l ih => rw [List.any_cons, List.all_cons, ih]; cases p a <;> rfl
theorem pl_script (g : Geometry) (hg : GOk g) (l : List Fault) : ∃ y, p_spec_l08Script g l = some y ∧ p_impl_scriptOk g l = some y ∧ (y = true → l.length ≤ 40 ∧ ∀ x ∈ l, FPr g x) := by
  obtain ⟨z, e, hz⟩ := pl_sGeo g
  have hz1 := hz.mpr hg
  subst hz1
  unfold p_spec_l08Script p_impl_scriptOk
  rw [pl_iGeo, e, callK_some, callK_some, if_pos rfl, if_pos rfl]
  by_cases h : (l.length : Int) > 40
  · rw [if_pos h, if_neg (by omega)]; exact ⟨_, rfl, rfl, fun h => by simp at h⟩
  rw [if_neg h, if_pos (by omega), grd_pos (by omega)]
  obtain ⟨p, hp⟩ : ∃ p : Fault → Bool, ∀ x, p_spec_ValidFault g x = some (p x) ∧ p_impl_faultOk g x = some (p x) ∧ (p x = true → FPr g x) := by
    have := fun x => pl_fault g hg x
    exact ⟨fun x => (this x).choose, fun x => (this x).choose_spec⟩
  have e1 := forK_all (l := l) (f := fun (i9 : Nat) x11 (_ : Unit) (nx10 : Unit → Option Bool) => callK (p_spec_ValidFault g x11) fun y12 => if y12 = true then nx10 () else some false) (k := fun _ => some true) p (some false) (fun i x nx => by rw [(hp x).1, callK_some])
  have e2 : p_slices_ContainsFunc_impl_scriptOk_c1 l g = some (l.any fun x => !p x) := by
    unfold p_slices_ContainsFunc_impl_scriptOk_c1 p_slices_IndexFunc_impl_scriptOk_c1
    rw [grd_pos (by omega)]
    have := forK_idx (f := fun x => p_impl_scriptOk_c1 x g) (p := fun x => !p x) (fun x => by unfold p_impl_scriptOk_c1; rw [(hp x).2.1, callK_some]) l
    rw [this]
    simp only [callK_some, idxP_any]
  rw [e2, callK_some]
  refine ⟨l.all p, ?_, ?_, fun hl => ⟨by omega, fun x hx => (hp x).2.2 (List.all_eq_true.mp hl x hx)⟩⟩
  · rw [show (forK l (fun (i9 : Nat) x11 (_ : Unit) (nx10 : Unit → Option Bool) => callK (p_spec_ValidFault g x11) fun y12 => if y12 = true then nx10 () else some false) () fun _ => some true) = _ from e1]
    cases l.all p <;> rfl
  · rw [any_notF]; simp
theorem pl_own (f : Flash) (hF : Fit f.Blocks) : p_spec_l15Own f = some f.Blocks := by
  have hl := hF.len
  unfold p_spec_l15Own
  rw [grd_pos (by omega)]
  refine forK_rule (fun i (v : List Block) => v = f.Blocks.take i) (fun i hi v hv nx hnx => ?_) (fun v hv => by rw [hv, List.take_length]) _ (by simp)
  have hp := hF.pg (List.getElem_mem hi)
  have hv2 : v.length = i := by rw [hv, List.length_take]; omega
  rw [grd_pos (appOk_of _ _ (by omega)), grd_pos (appOk_of _ _ (by omega))]
  exact hnx _ (by rw [hv, List.take_succ_eq_append_getElem hi])
theorem pl_clone (f : Flash) (hF : Fit f.Blocks) : p_impl_Flash_clone f = some f.Blocks := by
  have hl := hF.len
  unfold p_impl_Flash_clone
  rw [grd_pos (appOk_of _ _ (by omega)), grd_pos (by omega)]
  refine forI_rule (fun i (v : List Block) => v = f.Blocks) (fun i hi v hv nx hnx => ?_) (fun v hv => by subst hv; rw [grd_pos (by rw [Int.toNat_natCast])]) _ rfl
  subst hv
  have hi' : i < f.Blocks.length := by omega
  rw [getK_lt hi', grd_pos (appOk_of _ _ (by have := hF.pg (List.getElem_mem hi'); omega))]
  exact hnx _ (by rw [Int.toNat_natCast, List.set_getElem_self])
theorem pl_cuts (l : List Fault) (h : l.length ≤ 40) : ∃ y, p_spec_l08Cuts l = some y ∧ (y = true ↔ ∃ x ∈ l, x.Kind = 5) := by
  unfold p_spec_l08Cuts
  rw [grd_pos (by omega)]
  refine forK_ex (fun i _ => ∀ (j : Nat) (hj : j < l.length), j < i → l[j].Kind ≠ 5) (fun i hi s hs nx hnx => ?_) (fun s hs => ?_) () (fun j hj h => by omega)
  · by_cases c : l[i].Kind = 5
    · rw [if_pos c]; exact ⟨_, rfl, fun _ => ⟨_, List.getElem_mem hi, c⟩, fun _ => rfl⟩
    · rw [if_neg c]
      exact hnx () fun j hj hlt => by
        by_cases hji : j = i
        · subst hji; exact c
        · exact hs j hj (by omega)
  · refine ⟨_, rfl, fun h => by simp at h, fun ⟨x, hx, hk⟩ => ?_⟩
    obtain ⟨j, hj, rfl⟩ := List.mem_iff_getElem.mp hx
    exact absurd hk (hs j hj hj)
theorem LOk.fit {P : Int} {L : List Block} (h : LOk P L) (hP : P ≤ 16) (hn : L.length ≤ 36) : Fit L := by
  have : cB L ≤ L.length * 16 := by
    clear hn
    induction L with
    | nil => simp [cB_nil]
    | cons b L ih =>
      have h1 := ih fun x hx => h x (by simp [hx])
      have h2 := (h b (by simp)).2.2.1
      rw [cB_cons, List.length_cons]
      omega
  unfold Fit
  omega

/-! ### Flips: they commute, and twice is none -/
def mskB (t : Nat) : UInt8 := UInt8.ofNat (2 ^ (t % 8))
def flipB (x : ByteArray) (t : Nat) : ByteArray := ofL ((bl x).modify (t / 8) fun v => v ^^^ mskB t)
theorem flipB_size (x : ByteArray) (t : Nat) : (flipB x t).size = x.size := by unfold flipB; rw [size_ofL, List.length_modify, bl_len]
theorem u8_xx (a b : UInt8) : a ^^^ b ^^^ b = a := by rw [UInt8.xor_assoc, UInt8.xor_self, UInt8.xor_zero]
theorem u8_xc (a b c : UInt8) : a ^^^ b ^^^ c = a ^^^ c ^^^ b := by rw [UInt8.xor_assoc, UInt8.xor_comm b c, ← UInt8.xor_assoc]
theorem mod_comm {α : Type} (l : List α) (i j : Nat) (f g : α → α) (h : i = j → ∀ x, f (g x) = g (f x)) : (l.modify i f).modify j g = (l.modify j g).modify i f := by
  refine List.ext_getElem? fun k => ?_
  simp only [List.getElem?_modify]
  by_cases h1 : i = k <;> by_cases h2 : j = k
  · subst h1
    simp only [h2, if_true]
    cases l[i]? with
    | none => rfl
    | some x => exact congrArg some (h h2.symm x).symm
  · simp [h1, h2]
  · simp [h1, h2]
  · simp [h1, h2]
theorem mod_twice {α : Type} (l : List α) (i : Nat) (f : α → α) (h : ∀ x, f (f x) = x) : (l.modify i f).modify i f = l := by
  refine List.ext_getElem? fun k => ?_
  simp only [List.getElem?_modify]
  by_cases h1 : i = k
  · simp only [h1, if_true]
    cases l[k]? with
    | none => rfl
    | some x => exact congrArg some (h x)
  · simp [h1]
theorem flipB_twice (x : ByteArray) (t : Nat) : flipB (flipB x t) t = x := by
  unfold flipB
  rw [bl_ofL, mod_twice _ _ _ fun v => u8_xx v _, ofL_bl]
theorem flipB_comm (x : ByteArray) (t u : Nat) : flipB (flipB x t) u = flipB (flipB x u) t := by
  unfold flipB
  rw [bl_ofL, bl_ofL, mod_comm _ _ _ _ _ fun _ v => u8_xc v _ _]
/-- One page turned at a bit, unless it is empty. -/
def flP (t : Nat) (x : ByteArray) : ByteArray := if x.size = 0 then x else flipB x t
theorem flP_size (x : ByteArray) (t : Nat) : (flP t x).size = x.size := by unfold flP; split <;> simp [flipB_size]
theorem flP_twice (x : ByteArray) (t : Nat) : flP t (flP t x) = x := by
  unfold flP
  by_cases h : x.size = 0
  · simp [h]
  · rw [if_neg h, if_neg (by rw [flipB_size]; exact h), flipB_twice]
theorem flP_comm (x : ByteArray) (t u : Nat) : flP u (flP t x) = flP t (flP u x) := by
  unfold flP
  by_cases h : x.size = 0
  · simp [h]
  · rw [if_neg h, if_neg h, if_neg (by rw [flipB_size]; exact h), if_neg (by rw [flipB_size]; exact h), flipB_comm]
def flK (p t : Nat) (b : Block) : Block := ⟨b.Erases, b.Next, b.Bad, b.Pages.modify p (flP t)⟩
theorem flK_twice (b : Block) (p t : Nat) : flK p t (flK p t b) = b := by
  unfold flK
  dsimp only
  rw [mod_twice _ _ _ fun x => flP_twice x t]
theorem flK_comm (b : Block) (p t q u : Nat) : flK q u (flK p t b) = flK p t (flK q u b) := by
  unfold flK
  dsimp only
  rw [mod_comm _ p q (flP t) (flP u) fun _ x => (flP_comm x t u).symm]
/-- A flip: block, page, bit. -/
def flL (L : List Block) (s : Nat × Nat × Nat) : List Block := L.modify s.1 (flK s.2.1 s.2.2)
theorem flL_len (L : List Block) (s : Nat × Nat × Nat) : (flL L s).length = L.length := by unfold flL; rw [List.length_modify]
theorem flL_twice (L : List Block) (s : Nat × Nat × Nat) : flL (flL L s) s = L := by
  unfold flL
  rw [mod_twice _ _ _ fun b => flK_twice b _ _]
theorem flL_comm (L : List Block) (s r : Nat × Nat × Nat) : flL (flL L s) r = flL (flL L r) s := by
  unfold flL
  rw [mod_comm _ _ _ _ _ fun _ b => (flK_comm b _ _ _ _).symm]
theorem fold_comm {α β : Type} (f : β → α → β) (hc : ∀ L s r, f (f L s) r = f (f L r) s) (l : List α) (L : β) (s : α) : l.foldl f (f L s) = f (l.foldl f L) s := by
  induction l generalizing L with
  | nil => rfl
  | cons x l ih => rw [List.foldl_cons, List.foldl_cons, hc, ih]
theorem fold_twice {α β : Type} (f : β → α → β) (hc : ∀ L s r, f (f L s) r = f (f L r) s) (ht : ∀ L s, f (f L s) s = L) (l : List α) (L : β) : l.foldl f (l.foldl f L) = L := by
  induction l generalizing L with
  | nil => rfl
  | cons x l ih =>
    rw [List.foldl_cons, List.foldl_cons, fold_comm f hc l (l.foldl f (f L x)) x, fold_comm f hc l L x, fold_comm f hc l (l.foldl f L) x, ht, ih]
theorem flips_twice (l : List (Nat × Nat × Nat)) (L : List Block) : l.foldl flL (l.foldl flL L) = L := fold_twice flL flL_comm flL_twice l L

/-! ### Texts drawn, sealed pages -/
theorem text15_ok {b : Int} (hb : 0 ≤ b) (n : Nat) (hn : n ≤ 100) {s : Sl00Src} (h : SrcOk (b + n) s) : ∃ t s', p_spec_l15Text (n : Int) s = some (t, s') ∧ t.size = n ∧ SrcOk b s' := by
  unfold p_spec_l15Text
  rw [grd_pos (by omega)]
  obtain ⟨r, e, g1, g2⟩ := forI_ex (n := (n : Int)) (Q := fun (r : ByteArray × Sl00Src) => r.1.size = n ∧ SrcOk b r.2)
    (f := fun (i6 : Nat) ((v7, v8) : (Sl00Src × (List Int))) (nx9 : (Sl00Src × (List Int)) → Option (ByteArray × Sl00Src)) =>
    callK (p_spec_l00Src_next v7) fun y10 =>
    grd (appOk (v8.length + 1) 1 = true) <|
    nx9 (y10.2, (v8 ++ ([(IntKind.u8.wrap y10.1)] : List Int)))) (k := fun ((v7, v8) : (Sl00Src × (List Int))) => some ((bytesOf (v8.map rU)), v7))
    (fun i (s : Sl00Src × List Int) => s.2.length = i ∧ SrcOk (b + n - i) s.1) (fun i hi s hs nx hnx => by
      obtain ⟨v7, v8⟩ := s
      obtain ⟨h1, h2⟩ := hs
      dsimp only at h1 h2 ⊢
      obtain ⟨v, s', e, _, o⟩ := next_ok (b := b + n - (i + 1)) (by omega) (h2.le (by omega))
      rw [e, callK_some, grd_pos (appOk_of _ _ (by omega))]
      exact hnx _ ⟨by simp; omega, o.le (by push_cast; omega)⟩) (fun s hs => by
      obtain ⟨v7, v8⟩ := s
      obtain ⟨h1, h2⟩ := hs
      dsimp only at h1 h2 ⊢
      refine ⟨_, rfl, ?_, h2.le (by omega)⟩
      rw [bytesOf_rU, size_ofL, List.length_map, h1]; omega) (s, []) ⟨rfl, h.le (by omega)⟩
  exact ⟨r.1, r.2, e, g1, g2⟩
theorem step02_ok (v : Int) : ∃ w, p_spec_l02Step v = some w := by unfold p_spec_l02Step; split <;> exact ⟨_, rfl⟩
theorem stream_ok (v : Int) (n : Nat) (hn : n ≤ 1000) : ∃ t, p_spec_l02Stream v (n : Int) = some t ∧ t.size = n := by
  unfold p_spec_l02Stream
  rw [grd_pos (by omega)]
  refine forI_ex (fun i (s : Int × List Int) => s.2.length = i) (fun i hi s hs nx hnx => ?_) (fun s hs => ?_) (v, []) rfl
  · obtain ⟨v16, v17⟩ := s
    dsimp only at hs ⊢
    rw [grd_pos (by omega)]
    refine forI_ex (fun _ _ => True) (fun j hj s2 _ nx2 hnx2 => ?_) (fun s2 _ => ?_) (v16, 0) trivial
    · obtain ⟨v25, v26⟩ := s2
      dsimp only
      obtain ⟨w, e⟩ := step02_ok v25
      rw [grd_pos (by unfold IntKind.wrap; simp [IntKind.signed, IntKind.bits]; omega), e, callK_some]
      exact hnx2 _ trivial
    · obtain ⟨v25, v26⟩ := s2
      dsimp only
      rw [grd_pos (appOk_of _ _ (by omega))]
      exact hnx _ (by simp [hs])
  · obtain ⟨v16, v17⟩ := s
    dsimp only at hs ⊢
    refine ⟨_, rfl, ?_⟩
    rw [bytesOf_rU, size_ofL, List.length_map, hs]; omega
theorem xor02_ok (a b : ByteArray) (h : a.size = b.size) (ha : a.size ≤ 1000) : ∃ t, p_spec_l02Xor a b = some t ∧ t.size = a.size := by
  unfold p_spec_l02Xor
  rw [grd_pos (by omega)]
  refine forI_ex (fun i (s : List Int) => s.length = i) (fun i hi s hs nx hnx => ?_) (fun s hs => ?_) [] rfl
  · rw [getB_lt (by rw [bl_len]; omega), getB_lt (by rw [bl_len]; omega), grd_pos (appOk_of _ _ (by omega))]
    exact hnx _ (by simp [hs])
  · refine ⟨_, rfl, ?_⟩
    rw [bytesOf_rU, size_ofL, List.length_map, hs]; omega
theorem scr_ok (p : Int) (a : ByteArray) (ha : a.size ≤ 256) (hp : 0 ≤ p ∧ p ≤ 65534) : ∃ t, p_spec_Scramble p a = some (t, 0) ∧ t.size = a.size := by
  unfold p_spec_Scramble
  obtain ⟨t, e, ht⟩ := stream_ok (IntKind.i64.wrap (p + 1)) a.size (by omega)
  obtain ⟨u, e2, hu⟩ := xor02_ok a t ht.symm (by omega)
  rw [if_pos ((inR_iff _ _ _).mpr hp), if_neg (by omega), e, callK_some, e2, callK_some]
  exact ⟨_, rfl, hu⟩
theorem pos_all : ∀ i : Fin 64, (p_spec_l03Position (i.val : Int)).isSome = true := by decide +kernel
theorem u64_nn (n : Int) : 0 ≤ IntKind.u64.wrap n := by unfold IntKind.wrap; simp [IntKind.signed, IntKind.bits]; omega
theorem pos_ok (i : Nat) (hi : i < 72) : ∃ y, p_spec_l03Position (i : Int) = some y := by
  by_cases h : i < 64
  · have := pos_all ⟨i, h⟩
    exact Option.isSome_iff_exists.mp this
  · unfold p_spec_l03Position
    rw [if_pos (by omega), grd_pos (u64_nn _)]
    exact ⟨_, rfl⟩
theorem bit03_ok (a : ByteArray) (ha : a.size = 8) (low : Int) (i : Nat) (hi : i < 72) : ∃ y, p_spec_l03Bit a low (i : Int) = some y := by
  unfold p_spec_l03Bit
  by_cases h : (i : Int) ≥ 64
  · rw [if_pos h, grd_pos (u64_nn _)]
    exact ⟨_, rfl⟩
  · have e : IntKind.i64.wrap (Int.tdiv (i : Int) 8) = ((i / 8 : Nat) : Int) := by
      rw [show Int.tdiv (i : Int) 8 = ((i / 8 : Nat) : Int) from by rw [Int.tdiv_eq_ediv_of_nonneg (by omega)]; omega]
      exact wrap_sm _ (by omega) (by omega)
    rw [if_neg h, e, getB_lt (by rw [bl_len]; omega), grd_pos (u64_nn _)]
    exact ⟨_, rfl⟩
theorem syn_ok (a : ByteArray) (ha : a.size = 8) (low : Int) : ∃ y, p_spec_l03Syndrome a low = some y := by
  unfold p_spec_l03Syndrome
  rw [grd_pos (by omega)]
  obtain ⟨r, e, _⟩ := forI_ex (n := (72 : Int)) (Q := fun (_ : Int × Int) => True)
    (f := fun (i9 : Nat) ((v10, v11) : (Int × Int)) (nx12 : (Int × Int) → Option (Int × Int)) =>
    callK (p_spec_l03Bit a low (i9 : Int)) fun y13 =>
    if y13 = 0 then
      nx12 (v10, v11)
    else
      if (i9 : Int) < 71 then
        callK (p_spec_l03Position (i9 : Int)) fun y16 =>
        nx12 ((xorK .i64 v10 y16), (xorK .i64 v11 1))
      else
        nx12 (v10, (xorK .i64 v11 1))) (k := fun ((v10, v11) : (Int × Int)) => some (v10, v11))
    (fun _ _ => True) (fun i hi s _ nx hnx => by
      obtain ⟨v10, v11⟩ := s
      dsimp only
      obtain ⟨y, e⟩ := bit03_ok a ha low i (by omega)
      obtain ⟨z, e2⟩ := pos_ok i (by omega)
      rw [e, callK_some, e2, callK_some]
      split
      · exact hnx _ trivial
      · split <;> exact hnx _ trivial) (fun s _ => ⟨_, rfl, trivial⟩) (0, 0) trivial
  exact ⟨r, e⟩
theorem chk_ok (a : ByteArray) (ha : a.size = 8) : ∃ y, p_spec_l03Check a = some y := by
  unfold p_spec_l03Check
  obtain ⟨y1, e1⟩ := syn_ok a ha 0
  obtain ⟨y2, e2⟩ := syn_ok a ha y1.1
  rw [e1, callK_some, e2, callK_some]
  exact ⟨_, rfl⟩
theorem ecc_ok (a : ByteArray) (ha : a.size = 80) : ∃ y, p_spec_EncodeEcc a = some y ∧ y.1.size ≤ 100 := by
  unfold p_spec_EncodeEcc p_spec_l03Words
  rw [if_pos (by rw [ha]; rfl), callK_some, if_pos (by rw [ha]; decide)]
  refine iterK_ex (fun d (s : Int × List Int) => ∃ n : Nat, s.1 = 8 * (n : Int) ∧ d = 10 - n ∧ n ≤ 10 ∧ s.2.length = n) (fun d s hs nx hnx => ?_) 10 _ (by unfold NN; omega) ⟨0, rfl, rfl, by omega, rfl⟩
  obtain ⟨v3, v4⟩ := s
  obtain ⟨n, h1, h2, h3, h4⟩ := hs
  dsimp only at h1 h4 ⊢
  subst h1
  by_cases hc : 8 * (n : Int) < (a.size : Int)
  · have w : IntKind.i64.wrap (8 * (n : Int) + 8) = 8 * (n : Int) + 8 := wrap_sm _ (by omega) (by omega)
    rw [if_pos hc, w, grd_pos (by omega)]
    obtain ⟨y, e⟩ := chk_ok (ByteArray.extract a (Int.toNat (8 * (n : Int))) (Int.toNat (8 * (n : Int) + 8))) (by rw [ByteArray.size_extract]; omega)
    rw [e, callK_some, grd_pos (appOk_of _ _ (by omega))]
    exact hnx (10 - (n + 1)) _ (by omega) ⟨n + 1, by dsimp only; push_cast; omega, rfl, by omega, by simp [h4]⟩
  · rw [if_neg hc]
    refine ⟨_, rfl, ?_⟩
    dsimp only
    rw [bytesOf_rU, size_ofL, List.length_map]; omega
theorem seal_ok (a b : ByteArray) (p : Int) (ha : a.size = 64) (hb : b.size = 16) (hp : 0 ≤ p ∧ p ≤ 65534) : ∃ y, p_spec_SealPage a b p = some y := by
  unfold p_spec_SealPage p_spec_l05Seal
  obtain ⟨t, e1, ht⟩ := scr_ok p (a ++ b) (by rw [ByteArray.size_append]; omega) hp
  rw [ByteArray.size_append] at ht
  obtain ⟨y, e2, hy⟩ := ecc_ok t (by omega)
  have h1 : (bytesOf ([[.lit (.int .u8 90)]] : List (List D))).size = 1 := by decide +kernel
  rw [if_neg (by omega), if_neg (by omega), if_pos ((inR_iff _ _ _).mpr hp), grd_pos (by omega), e1, callK_some]
  dsimp only
  rw [e2, callK_some, grd_pos (by omega), grd_pos (by rw [ByteArray.size_append, h1]; omega), callK_some]
  exact ⟨_, rfl⟩

/-! ### An array drawn -/
def S8 (L : List Block) : Prop := L.length = 8 ∧ ∀ b ∈ L, b.Pages.length = 8
theorem S8.cB {L : List Block} (h : ∀ b ∈ L, b.Pages.length = 8) : cB L = 8 * L.length := by
  induction L with
  | nil => rfl
  | cons b L ih =>
    rw [cB_cons, List.length_cons, ih fun x hx => h x (by simp [hx]), h b (by simp)]
    omega
theorem S8.fit {L : List Block} (h : S8 L) : Fit L := by
  have := S8.cB h.2
  have := h.1
  unfold Fit
  omega
theorem S8.set {L : List Block} (h : S8 L) (i : Nat) (b : Block) (hb : b.Pages.length = 8) : S8 (L.set i b) :=
  ⟨by rw [List.length_set]; exact h.1, fun x hx => (List.mem_or_eq_of_mem_set hx).elim (h.2 x) fun e => e ▸ hb⟩
theorem S8.setP {L : List Block} (h : S8 L) (j i : Nat) (hi : i < L.length) (e n : Int) (b : Bool) : S8 (L.set j ⟨e, n, b, L[i].Pages⟩) := h.set j _ (h.2 L[i] (List.getElem_mem hi))
theorem own06_ok (f : Flash) (h : S8 f.Blocks) : p_spec_l06Own f = some f.Blocks := by
  have hl := h.1
  unfold p_spec_l06Own
  rw [grd_pos (by omega)]
  refine forK_rule (fun i (v : List Block) => v = f.Blocks.take i) (fun i hi v hv nx hnx => ?_) (fun v hv => by rw [hv, List.take_length]) _ (by simp)
  have hp := h.2 _ (List.getElem_mem hi)
  have hv2 : v.length = i := by rw [hv, List.length_take]; omega
  rw [grd_pos (appOk_of _ _ (by omega)), grd_pos (appOk_of _ _ (by omega))]
  exact hnx _ (by rw [hv, List.take_succ_eq_append_getElem hi])
theorem prog_ok {L : List Block} (h : S8 L) {ops blk : Int} (ho : 0 ≤ ops ∧ ops ≤ 1000) (hb : 0 ≤ blk ∧ blk < 8) (nx : Int) (raw : ByteArray) :
    ∃ r, p_spec_ProgramPage 2 4 8 (-1) 0 false ops blk nx raw L = some r ∧ (r.2.2.2.2.2.2.2.1 = 0 → ∃ L', r = (2, 4, 8, -1, 0, false, ops + 1, 0, L') ∧ S8 L') := by
  unfold p_spec_ProgramPage
  obtain ⟨y, e, hy⟩ := pl_sVF ⟨⟨2, 4, 8⟩, L, -1, 0, false, ops⟩ h.fit
  rw [e, callK_some]
  by_cases h0 : y = true
  rotate_left
  · rw [if_neg h0]; exact ⟨_, rfl, fun h => by simp at h⟩
  obtain ⟨_, _, _, _, _, hL⟩ := hy.mp h0
  rw [if_pos h0]
  by_cases h1 : (ByteArray.size raw : Int) = 91
  rotate_left
  · rw [if_pos h1]; exact ⟨_, rfl, fun h => by simp at h⟩
  rw [if_neg (by simpa using h1), if_neg (by decide)]
  unfold p_spec_l06HasPage p_spec_l06HasBlock
  rw [callK_some]
  have hlen := h.1
  have hi : blk.toNat < L.length := by omega
  obtain ⟨x, hx⟩ : ∃ x, L[blk.toNat] = x := ⟨_, rfl⟩
  have hxm : x ∈ L := hx ▸ List.getElem_mem hi
  obtain ⟨_, ⟨n1, n2⟩, _, _⟩ := hL x hxm
  have hxp := h.2 x hxm
  dsimp only at n2
  have go : ∀ b : Bool, ∃ r, (callK (if b = true then some (inR nx 0 (IntKind.i64.wrap (8 - 1))) else some false) fun y6 =>
        if y6 = true then
          getK L blk fun x8 =>
          if x8.Bad = true then
            some (0, 0, 0, 0, 0, false, 0, 7, ([] : List Block))
          else
            if ¬ x8.Next = nx then
              some (0, 0, 0, 0, 0, false, 0, 5, ([] : List Block))
            else
              callK (p_spec_l06Own (⟨⟨2, 4, 8⟩, L, -1, 0, false, ops⟩ : Flash)) fun y11 =>
              callK (p_spec_l06Program blk raw 2 4 8 (-1) 0 false ops y11) fun y12 =>
              some ((2 : Int), (4 : Int), (8 : Int), y12.2.1, (0 : Int), y12.2.2.1, y12.2.2.2.1, y12.1, y12.2.2.2.2)
        else
          some (0, 0, 0, 0, 0, false, 0, 2, ([] : List Block))) = some r ∧ (r.2.2.2.2.2.2.2.1 = 0 → ∃ L', r = (2, 4, 8, -1, 0, false, ops + 1, 0, L') ∧ S8 L') := fun b => by
    cases b with
    | false => rw [if_neg (by decide), callK_some, if_neg (by decide)]; exact ⟨_, rfl, fun h => by simp at h⟩
    | true =>
      rw [if_pos rfl, callK_some]
      by_cases h2 : inR nx 0 (IntKind.i64.wrap (8 - 1)) = true
      rotate_left
      · rw [if_neg h2]; exact ⟨_, rfl, fun h => by simp at h⟩
      have h3 := (inR_iff _ _ _).mp h2
      rw [show IntKind.i64.wrap (8 - 1) = 7 from by decide] at h3
      rw [if_pos h2, getK_in hb.1 (by omega)]
      simp only [hx]
      by_cases h4 : x.Bad = true
      · rw [if_pos h4]; exact ⟨_, rfl, fun h => by simp at h⟩
      rw [if_neg h4]
      by_cases h5 : x.Next = nx
      rotate_left
      · rw [if_pos h5]; exact ⟨_, rfl, fun h => by simp at h⟩
      rw [if_neg (by simpa using h5), own06_ok _ h, callK_some]
      unfold p_spec_l06Program p_spec_l06Tick
      dsimp only
      rw [getK_in hb.1 (by omega)]
      simp only [hx]
      rw [if_neg (by decide), if_neg (by decide), callK_some, if_neg (by simp), getK_in (by omega) (by omega), getN_lt (by rw [List.length_set]; exact hi)]
      dsimp only
      rw [callK_some]
      rw [wrap_sm (ops + 1) (by omega) (by omega)]
      refine ⟨_, rfl, fun _ => ⟨_, rfl, ?_⟩⟩
      exact (h.set blk.toNat ⟨x.Erases, x.Next, x.Bad, x.Pages.set x.Next.toNat raw⟩ (by simpa using hxp)).set blk.toNat _ (by simpa using hxp)
  exact go _

theorem arm_ok {L : List Block} (h : S8 L) (D B P fu ke : Int) (off : Bool) (ops a b : Int) :
    ∃ r, p_spec_ArmFuse D B P fu ke off ops a b L = some r ∧ (r.2.2.2.2.2.2.2.1 = 0 → S8 r.2.2.2.2.2.2.2.2) := by
  unfold p_spec_ArmFuse
  obtain ⟨y, e, _⟩ := pl_sVF ⟨⟨D, B, P⟩, L, fu, ke, off, ops⟩ h.fit
  rw [e, callK_some]
  by_cases h0 : y = true
  rotate_left
  · rw [if_neg h0]; exact ⟨_, rfl, fun h => by simp at h⟩
  rw [if_pos h0]
  by_cases h1 : off = true
  · rw [if_pos h1]; exact ⟨_, rfl, fun h => by simp at h⟩
  rw [if_neg h1]
  by_cases h2 : inR a (-1) 1000000 = true
  rotate_left
  · rw [if_neg h2]; exact ⟨_, rfl, fun h => by simp at h⟩
  rw [if_pos h2]
  by_cases h3 : inR b 0 91 = true
  rotate_left
  · rw [if_neg h3]; exact ⟨_, rfl, fun h => by simp at h⟩
  rw [if_pos h3, own06_ok _ h, callK_some]
  exact ⟨_, rfl, fun _ => h⟩
abbrev FT := Int × Int × Int × Int × Int × Bool × Int × Sl00Src × List Block
noncomputable def fS5 (D B P fu ke : Int) (off : Bool) (ops : Int) (s : Sl00Src) (L : List Block) : Option FT :=
  callK (p_spec_l00Src_one 20 s) fun y =>
  if y.1 = true then
    callK (p_spec_l00Src_among' y.2 ([(-1), 9] : List Int)) fun y42 =>
    getK L 0 fun x43 =>
    some (D, B, P, fu, ke, off, ops, y42.2, (L.set (Int.toNat 0) (⟨x43.Erases, y42.1, x43.Bad, x43.Pages⟩ : Block)))
  else
    some (D, B, P, fu, ke, off, ops, y.2, L)
noncomputable def fS4 (D B P fu ke : Int) (off : Bool) (ops : Int) (s : Sl00Src) (L : List Block) : Option FT :=
  callK (p_spec_l00Src_one 20 s) fun y =>
  if y.1 = true then fS5 D B P fu ke true ops y.2 L else fS5 D B P fu ke off ops y.2 L
noncomputable def fS3 (D B P fu ke : Int) (off : Bool) (ops : Int) (s : Sl00Src) (L : List Block) : Option FT :=
  callK (p_spec_l00Src_one 2 s) fun y =>
  if y.1 = true then
    callK (p_spec_l00Src_pick 14 y.2) fun y34 =>
    callK (p_spec_l00Src_among' y34.2 ([0, 3, 10, 91] : List Int)) fun y35 =>
    callK (p_spec_ArmFuse D B P fu ke off ops y34.1 y35.1 L) fun y36 =>
    if y36.2.2.2.2.2.2.2.1 = 0 then fS4 y36.1 y36.2.1 y36.2.2.1 y36.2.2.2.1 y36.2.2.2.2.1 y36.2.2.2.2.2.1 y36.2.2.2.2.2.2.1 y35.2 y36.2.2.2.2.2.2.2.2
    else fS4 D B P fu ke off ops y35.2 L
  else fS4 D B P fu ke off ops y.2 L
noncomputable def fS2 (D B P fu ke : Int) (off : Bool) (ops : Int) (s : Sl00Src) (L : List Block) : Option FT :=
  callK (p_spec_l00Src_one 6 s) fun y =>
  if y.1 = true then
    callK (p_spec_l00Src_pick 8 y.2) fun y29 =>
    callK (p_spec_l00Src_among' y29.2 ([1000, 999, 998] : List Int)) fun y30 =>
    getK L y29.1 fun x31 =>
    fS3 D B P fu ke off ops y30.2 (L.set (Int.toNat y29.1) (⟨y30.1, x31.Next, x31.Bad, x31.Pages⟩ : Block))
  else fS3 D B P fu ke off ops y.2 L
noncomputable def fS1 (D B P fu ke : Int) (off : Bool) (ops : Int) (s : Sl00Src) (L : List Block) : Option FT :=
  callK (p_spec_l00Src_one 6 s) fun y =>
  if y.1 = true then
    callK (p_spec_l00Src_pick 8 y.2) fun y25 =>
    getK L y25.1 fun x26 =>
    fS2 D B P fu ke off ops y25.2 (L.set (Int.toNat y25.1) (⟨x26.Erases, x26.Next, true, x26.Pages⟩ : Block))
  else fS2 D B P fu ke off ops y.2 L
def QF (r : FT) : Prop := S8 r.2.2.2.2.2.2.2.2 ∧ SrcOk 2000000 r.2.2.2.2.2.2.2.1
theorem fS5_ok {L : List Block} (h : S8 L) (D B P fu ke : Int) (off : Bool) (ops : Int) {s : Sl00Src} (hs : SrcOk 2000010 s) : ∃ r, fS5 D B P fu ke off ops s L = some r ∧ QF r := by
  unfold fS5
  have hl := h.1
  obtain ⟨o, s1, e1, o1⟩ := one_ok (b := 2000004) 20 (by omega) (hs.le (by omega))
  obtain ⟨z, s2, e2, _, o2⟩ := amongO_ok (b := 2000000) (s := s1) ([(-1), 9] : List Int) (by simp) (by omega) (o1.le (by omega))
  rw [e1, callK_some]
  dsimp only
  cases o with
  | true =>
    rw [if_pos rfl, e2, callK_some, show (0 : Int) = ((0 : Nat) : Int) from rfl, getK_lt (by omega)]
    exact ⟨_, rfl, h.setP _ 0 (by omega) _ _ _, o2⟩
  | false =>
    rw [if_neg (by decide)]
    exact ⟨_, rfl, h, o1.le (by omega)⟩
theorem fS4_ok {L : List Block} (h : S8 L) (D B P fu ke : Int) (off : Bool) (ops : Int) {s : Sl00Src} (hs : SrcOk 2000020 s) : ∃ r, fS4 D B P fu ke off ops s L = some r ∧ QF r := by
  unfold fS4
  obtain ⟨o, s1, e1, o1⟩ := one_ok (b := 2000010) 20 (by omega) (hs.le (by omega))
  rw [e1, callK_some]
  dsimp only
  split
  · exact fS5_ok h _ _ _ _ _ _ _ o1
  · exact fS5_ok h _ _ _ _ _ _ _ o1
theorem fS3_ok {L : List Block} (h : S8 L) (D B P fu ke : Int) (off : Bool) (ops : Int) {s : Sl00Src} (hs : SrcOk 2000040 s) : ∃ r, fS3 D B P fu ke off ops s L = some r ∧ QF r := by
  unfold fS3
  obtain ⟨o, s1, e1, o1⟩ := one_ok (b := 2000030) 2 (by omega) (hs.le (by omega))
  obtain ⟨y34, s2, e2, _, o2⟩ := pick_ok (b := 2000025) 14 (by omega) (o1.le (by omega))
  obtain ⟨y35, s3, e3, _, o3⟩ := amongO_ok (b := 2000020) (s := s2) ([0, 3, 10, 91] : List Int) (by simp) (by omega) (o2.le (by omega))
  obtain ⟨r, e4, h4⟩ := arm_ok h D B P fu ke off ops y34 y35
  rw [e1, callK_some]
  dsimp only
  cases o with
  | true =>
    rw [if_pos rfl, e2, callK_some]
    dsimp only
    rw [e3, callK_some]
    dsimp only
    rw [e4, callK_some]
    by_cases c : r.2.2.2.2.2.2.2.1 = 0
    · rw [if_pos c]; exact fS4_ok (h4 c) _ _ _ _ _ _ _ o3
    · rw [if_neg c]; exact fS4_ok h _ _ _ _ _ _ _ o3
  | false =>
    rw [if_neg (by decide)]
    exact fS4_ok h _ _ _ _ _ _ _ (o1.le (by omega))
theorem fS2_ok {L : List Block} (h : S8 L) (D B P fu ke : Int) (off : Bool) (ops : Int) {s : Sl00Src} (hs : SrcOk 2000060 s) : ∃ r, fS2 D B P fu ke off ops s L = some r ∧ QF r := by
  unfold fS2
  have hl := h.1
  obtain ⟨o, s1, e1, o1⟩ := one_ok (b := 2000050) 6 (by omega) (hs.le (by omega))
  obtain ⟨y29, s2, e2, ⟨b1, b2, _⟩, o2⟩ := pick_ok (b := 2000045) 8 (by omega) (o1.le (by omega))
  have b2 := b2 (by omega)
  obtain ⟨y30, s3, e3, _, o3⟩ := amongO_ok (b := 2000040) (s := s2) ([1000, 999, 998] : List Int) (by simp) (by omega) (o2.le (by omega))
  rw [e1, callK_some]
  dsimp only
  cases o with
  | true =>
    rw [if_pos rfl, e2, callK_some]
    dsimp only
    rw [e3, callK_some]
    dsimp only
    rw [getK_in b1 (by omega)]
    exact fS3_ok (h.setP _ y29.toNat (by omega) _ _ _) _ _ _ _ _ _ _ o3
  | false =>
    rw [if_neg (by decide)]
    exact fS3_ok h _ _ _ _ _ _ _ (o1.le (by omega))
theorem fS1_ok {L : List Block} (h : S8 L) (D B P fu ke : Int) (off : Bool) (ops : Int) {s : Sl00Src} (hs : SrcOk 2000080 s) : ∃ r, fS1 D B P fu ke off ops s L = some r ∧ QF r := by
  unfold fS1
  have hl := h.1
  obtain ⟨o, s1, e1, o1⟩ := one_ok (b := 2000070) 6 (by omega) (hs.le (by omega))
  obtain ⟨y25, s2, e2, ⟨b1, b2, _⟩, o2⟩ := pick_ok (b := 2000060) 8 (by omega) (o1.le (by omega))
  have b2 := b2 (by omega)
  rw [e1, callK_some]
  dsimp only
  cases o with
  | true =>
    rw [if_pos rfl, e2, callK_some]
    dsimp only
    rw [getK_in b1 (by omega)]
    exact fS2_ok (h.setP _ y25.toNat (by omega) _ _ _) _ _ _ _ _ _ _ o2
  | false =>
    rw [if_neg (by decide)]
    exact fS2_ok h _ _ _ _ _ _ _ (o1.le (by omega))
theorem new_ok : ∃ L, p_spec_NewFlash ⟨2, 4, 8⟩ = some (2, 4, 8, -1, 0, false, 0, 0, L) ∧ S8 L := by
  unfold p_spec_NewFlash
  obtain ⟨z, e, hz⟩ := pl_sGeo ⟨2, 4, 8⟩
  have hz1 := hz.mpr ⟨show (2 : Int) ≤ 2 ∧ (2 : Int) ≤ 3 by omega, show (4 : Int) ≤ 4 ∧ (4 : Int) ≤ 12 by omega, .inl rfl⟩
  subst hz1
  have hn : p_spec_l06New ⟨2, 4, 8⟩ = some (-1, 0, false, 0, List.replicate 8 ⟨0, 0, false, List.replicate 8 ⟨#[]⟩⟩) := by
    unfold p_spec_l06New
    have w : IntKind.i64.wrap (2 * 4) = 8 := by decide
    rw [w, grd_pos (by omega)]
    refine forI_rule (fun i (v : List Block) => v = List.replicate i ⟨0, 0, false, List.replicate 8 ⟨#[]⟩⟩) (fun i hi v hv nx hnx => ?_) (fun v hv => by rw [hv]; rfl) _ rfl
    have hl : v.length = i := by rw [hv, List.length_replicate]
    rw [grd_pos (by decide), grd_pos (appOk_of _ _ (by omega))]
    exact hnx _ (by rw [hv]; exact List.replicate_succ'.symm)
  rw [e, callK_some, if_pos rfl, hn, callK_some]
  refine ⟨_, rfl, List.length_replicate, fun b hb => ?_⟩
  rw [List.eq_of_mem_replicate hb]
  exact List.length_replicate
theorem flash_ok {s : Sl00Src} (hs : SrcOk 3000000 s) : ∃ r, p_spec_l15Flash s = some r ∧ QF r := by
  unfold p_spec_l15Flash
  obtain ⟨L0, e0, h0⟩ := new_ok
  obtain ⟨y2, s1, e1, ⟨b1, b1', _⟩, o1⟩ := pick_ok (b := 2900000) 20 (by omega) (hs.le (by omega))
  have b1' := b1' (by omega)
  rw [e0, callK_some, e1, callK_some]
  dsimp only
  refine iterK_ex (fun (d : Nat) (s : Int × Sl00Src × Int × Int × Int × Int × Int × Bool × Int × List Block) => ∃ (ops : Int) (L : List Block) (sr : Sl00Src), s = ((d : Int), sr, 2, 4, 8, -1, 0, false, ops, L) ∧ S8 L ∧ (0 ≤ ops ∧ ops ≤ 20 - d) ∧ d ≤ 19 ∧ SrcOk (2100000 + d * 100) sr) (fun d s hs nx hnx => ?_) y2.toNat _ (by unfold NN; omega)
    ⟨0, L0, s1, by rw [show ((y2.toNat : Nat) : Int) = y2 by omega], h0, by omega, by omega, o1.le (by omega)⟩
  obtain ⟨ops, L, sr, rfl, hL, ho, hd9, hsr⟩ := hs
  dsimp only
  by_cases hd : (d : Int) > 0
  · rw [if_pos hd]
    obtain ⟨a, sa, ea, ⟨a1, a2, _⟩, oa⟩ := pick_ok (b := 2100000 + d * 100 - 4) 8 (by omega) (hsr.le (by omega))
    have a2 := a2 (by omega)
    obtain ⟨t1, st, et, ht1, ot⟩ := text15_ok (b := 2100000 + d * 100 - 70) (by omega) 64 (by omega) (s := sa) (oa.le (by omega))
    obtain ⟨t2, su, eu, ht2, ou⟩ := text15_ok (b := 2100000 + d * 100 - 90) (by omega) 16 (by omega) (s := st) (ot.le (by omega))
    obtain ⟨p, sp, ep, ⟨p1, p2, _⟩, op⟩ := pick_ok (b := 2100000 + d * 100 - 100) 100 (by omega) (ou.le (by omega))
    have p2 := p2 (by omega)
    obtain ⟨y, ey⟩ := seal_ok t1 t2 p ht1 ht2 (by omega)
    have hl := hL.1
    have et : p_spec_l15Text 64 sa = some (t1, st) := et
    have eu : p_spec_l15Text 16 st = some (t2, su) := eu
    rw [ea, callK_some]
    dsimp only
    rw [et, callK_some]
    dsimp only
    rw [eu, callK_some]
    dsimp only
    rw [ep, callK_some]
    dsimp only
    rw [ey, callK_some, getK_in a1 (by omega)]
    obtain ⟨r, er, hr⟩ := prog_ok hL (ops := ops) (blk := a) (by omega) (by omega) (L[a.toNat]'(by omega)).Next y.1
    have w : IntKind.i64.wrap ((d : Int) - 1) = ((d - 1 : Nat) : Int) := by rw [wrap_sm _ (by omega) (by omega)]; omega
    rw [er, callK_some, w]
    by_cases c : r.2.2.2.2.2.2.2.1 = 0
    · obtain ⟨L', rfl, hL'⟩ := hr c
      rw [if_pos c]
      exact hnx (d - 1) _ (by omega) ⟨ops + 1, L', sp, rfl, hL', by omega, by omega, op.le (by omega)⟩
    · rw [if_neg c]
      exact hnx (d - 1) _ (by omega) ⟨ops, L, sp, rfl, hL, by omega, by omega, op.le (by omega)⟩
  · rw [if_neg hd]
    exact fS1_ok hL 2 4 8 (-1) 0 false ops (hsr.le (by omega))

/-! ### A script drawn -/
theorem one8_ok {b : Int} (g : Geometry) {s : Sl00Src} (hb : 0 ≤ b) (h : SrcOk (b + 20) s) : ∃ r s', p_spec_l08One g s = some (r, s') ∧ SrcOk b s' := by
  unfold p_spec_l08One
  obtain ⟨y1, s1, e1, _, o1⟩ := pick_ok (b := b + 16) 8 (by omega) (h.le (by omega))
  rw [e1, callK_some]
  dsimp only
  by_cases c0 : y1 = 0
  · rw [if_pos c0]
    obtain ⟨y3, s3, e3, _, o3⟩ := pick_ok (b := b + 12) (IntKind.i64.wrap (g.Dies * g.Blocks)) (by omega) (o1.le (by omega))
    obtain ⟨y4, s4, e4, _, o4⟩ := pick_ok (b := b + 8) g.Pages (by omega) (o3.le (by omega))
    obtain ⟨y5, s5, e5, _, o5⟩ := pick_ok (b := b) 728 (by omega) (o4.le (by omega))
    rw [e3, callK_some]; dsimp only
    rw [e4, callK_some]; dsimp only
    rw [e5, callK_some]
    exact ⟨_, _, rfl, o5⟩
  rw [if_neg c0]
  by_cases c1 : y1 = 1
  · rw [if_pos c1]
    obtain ⟨y3, s3, e3, _, o3⟩ := pick_ok (b := b + 12) (IntKind.i64.wrap (g.Dies * g.Blocks)) (by omega) (o1.le (by omega))
    obtain ⟨y5, s5, e5, _, o5⟩ := pick_ok (b := b) 728 (by omega) (o3.le (by omega))
    rw [e3, callK_some]; dsimp only
    rw [e5, callK_some]
    exact ⟨_, _, rfl, o5⟩
  rw [if_neg c1]
  by_cases c2 : y1 = 2
  · rw [if_pos c2]
    obtain ⟨y3, s3, e3, _, o3⟩ := pick_ok (b := b) (IntKind.i64.wrap (g.Dies * g.Blocks)) (by omega) (o1.le (by omega))
    rw [e3, callK_some]
    exact ⟨_, _, rfl, o3⟩
  rw [if_neg c2]
  by_cases c3 : y1 = 3
  · rw [if_pos c3]
    obtain ⟨y3, s3, e3, _, o3⟩ := pick_ok (b := b + 12) 20 (by omega) (o1.le (by omega))
    obtain ⟨y5, s5, e5, _, o5⟩ := pick_ok (b := b) 92 (by omega) (o3.le (by omega))
    rw [e3, callK_some]; dsimp only
    rw [e5, callK_some]
    exact ⟨_, _, rfl, o5⟩
  rw [if_neg c3]
  obtain ⟨y3, s3, e3, _, o3⟩ := pick_ok (b := b + 12) (IntKind.i64.wrap (g.Dies * g.Blocks)) (by omega) (o1.le (by omega))
  obtain ⟨y4, s4, e4, _, o4⟩ := pick_ok (b := b + 8) g.Pages (by omega) (o3.le (by omega))
  obtain ⟨y5, s5, e5, _, o5⟩ := pick_ok (b := b + 4) 728 (by omega) (o4.le (by omega))
  obtain ⟨y6, s6, e6, _, o6⟩ := amongO_ok (b := b) (s := s5) ([y5, 0, 63, 64, 640, 719, 720, 727] : List Int) (by simp) (by omega) (o5.le (by omega))
  rw [e3, callK_some]; dsimp only
  rw [e4, callK_some]; dsimp only
  rw [e5, callK_some]; dsimp only
  rw [e6, callK_some]
  exact ⟨_, _, rfl, o6⟩
theorem any8_ok {b : Int} (g : Geometry) {s : Sl00Src} (hb : 0 ≤ b) (h : SrcOk (b + 40) s) : ∃ r s', p_spec_l08Any g s = some (r, s') ∧ SrcOk b s' := by
  unfold p_spec_l08Any
  obtain ⟨x, s1, e1, o1⟩ := one8_ok (b := b + 20) g (by omega) (h.le (by omega))
  obtain ⟨o, s2, e2, o2⟩ := one_ok (b := b + 16) 25 (by omega) (o1.le (by omega))
  rw [e1, callK_some]; dsimp only
  rw [e2, callK_some]; dsimp only
  cases o with
  | false => rw [if_neg (by decide)]; exact ⟨_, _, rfl, o2.le (by omega)⟩
  | true =>
    rw [if_pos rfl]
    obtain ⟨y4, s4, e4, _, o4⟩ := pick_ok (b := b + 10) 4 (by omega) (o2.le (by omega))
    rw [e4, callK_some]; dsimp only
    by_cases c0 : y4 = 0
    · rw [if_pos c0]
      obtain ⟨z, s5, e5, _, o5⟩ := pick_ok (b := b) 7 (by omega) (o4.le (by omega))
      rw [e5, callK_some]; exact ⟨_, _, rfl, o5⟩
    rw [if_neg c0]
    by_cases c1 : y4 = 1
    · rw [if_pos c1]
      obtain ⟨z, s5, e5, _, o5⟩ := amongO_ok (b := b) (s := s4) ([(-1), (IntKind.i64.wrap (g.Dies * g.Blocks)), 1] : List Int) (by simp) (by omega) (o4.le (by omega))
      rw [e5, callK_some]; exact ⟨_, _, rfl, o5⟩
    rw [if_neg c1]
    by_cases c2 : y4 = 2
    · rw [if_pos c2]
      obtain ⟨z, s5, e5, _, o5⟩ := amongO_ok (b := b) (s := s4) ([(-1), g.Pages, 1000000, 1000001] : List Int) (by simp) (by omega) (o4.le (by omega))
      rw [e5, callK_some]; exact ⟨_, _, rfl, o5⟩
    rw [if_neg c2]
    by_cases c3 : y4 = 3
    · rw [if_pos c3]
      obtain ⟨z, s5, e5, _, o5⟩ := amongO_ok (b := b) (s := s4) ([(-1), 728, 92] : List Int) (by simp) (by omega) (o4.le (by omega))
      rw [e5, callK_some]; exact ⟨_, _, rfl, o5⟩
    rw [if_neg c3]
    exact ⟨_, _, rfl, o4.le (by omega)⟩
theorem scr8_ok (g : Geometry) {s : Sl00Src} (hs : SrcOk 10000 s) : ∃ r, p_spec_l08Draw g s = some r ∧ r.2.length ≤ 60 := by
  unfold p_spec_l08Draw
  obtain ⟨o, s1, e1, o1⟩ := one_ok (b := 9900) 2 (by omega) (hs.le (by omega))
  obtain ⟨y2, s2, e2, ⟨b1, b1', _⟩, o2⟩ := pick_ok (b := 9800) 6 (by omega) (o1.le (by omega))
  have b1' := b1' (by omega)
  rw [e1, callK_some]; dsimp only
  rw [e2, callK_some]; dsimp only
  refine iterK_ex (fun (d : Nat) (s : Bool × Int × Sl00Src × List Fault) => s.2.1 = d ∧ d ≤ 5 ∧ s.2.2.2.length + d ≤ 5 ∧ SrcOk (1000 + d * 100) s.2.2.1) (fun d s hs nx hnx => ?_) y2.toNat _ (by unfold NN; omega) ⟨by show y2 = _; omega, by omega, by simp; omega, o2.le (by omega)⟩
  obtain ⟨v3, v4, v5, v6⟩ := s
  obtain ⟨h1, h2, h3, h4⟩ := hs
  dsimp only at h1 h3 h4 ⊢
  subst h1
  by_cases hd : (d : Int) > 0
  · rw [if_pos hd]
    obtain ⟨a, sa, ea, oa⟩ := any8_ok (b := 1000 + d * 100 - 50) g (by omega) (h4.le (by omega))
    have w : IntKind.i64.wrap ((d : Int) - 1) = ((d - 1 : Nat) : Int) := by rw [wrap_sm _ (by omega) (by omega)]; omega
    rw [ea, callK_some]; dsimp only
    rw [w]
    cases v3 with
    | false =>
      rw [if_neg (by decide), grd_pos (appOk_of _ _ (by omega))]
      exact hnx (d - 1) _ (by omega) ⟨rfl, by omega, by simp; omega, oa.le (by omega)⟩
    | true =>
      rw [if_pos rfl]
      by_cases c : a.Kind = 1
      · rw [if_neg (by simpa using c), grd_pos (appOk_of _ _ (by omega))]
        exact hnx (d - 1) _ (by omega) ⟨rfl, by omega, by simp; omega, oa.le (by omega)⟩
      · obtain ⟨x1, q1, f1, _, r1⟩ := pick_ok (b := 1000 + d * 100 - 60) 4 (by omega) (oa.le (by omega))
        obtain ⟨x2, q2, f2, _, r2⟩ := pick_ok (b := 1000 + d * 100 - 70) 4 (by omega) (r1.le (by omega))
        obtain ⟨x3, q3, f3, _, r3⟩ := pick_ok (b := 1000 + d * 100 - 80) 728 (by omega) (r2.le (by omega))
        rw [if_pos c, f1, callK_some]; dsimp only
        rw [f2, callK_some]; dsimp only
        rw [f3, callK_some, grd_pos (appOk_of _ _ (by omega))]
        exact hnx (d - 1) _ (by omega) ⟨rfl, by omega, by simp; omega, r3.le (by omega)⟩
  · rw [if_neg hd]
    obtain ⟨o, so, eo, oo⟩ := one_ok (b := 990) 40 (by omega) (h4.le (by omega))
    rw [eo, callK_some]; dsimp only
    cases o with
    | false => rw [if_neg (by decide)]; exact ⟨_, rfl, by dsimp only; omega⟩
    | true =>
      rw [if_pos rfl]
      refine iterK_ex (fun (m : Nat) (s : Sl00Src × List Fault) => s.2.length + m = 50 ∧ s.2.length ≤ 45 ∧ SrcOk (100 + m * 5) s.1) (fun m s hs nx2 hnx2 => ?_) (50 - v6.length) _ (by unfold NN; omega) ⟨by dsimp only; omega, by dsimp only; omega, oo.le (by omega)⟩
      obtain ⟨v17, v18⟩ := s
      obtain ⟨k1, k2, k3⟩ := hs
      dsimp only at k1 k2 k3 ⊢
      obtain ⟨z, sz, ez, ⟨z1, z2, _⟩, oz⟩ := pick_ok (b := 100 + m * 5 - 5) 2 (by omega) (k3.le (by omega))
      have z2 := z2 (by omega)
      rw [ez, callK_some]; dsimp only
      rw [wrap_sm (40 + z) (by omega) (by omega)]
      by_cases c : (v18.length : Int) < 40 + z
      · rw [if_pos c, grd_pos (appOk_of _ _ (by omega))]
        exact hnx2 (m - 1) _ (by omega) ⟨by simp; omega, by simp; omega, oz.le (by omega)⟩
      · rw [if_neg c]
        exact ⟨_, rfl, by dsimp only; omega⟩
theorem dr_ok {code : List Int} (h : ∀ x ∈ code, 0 ≤ x ∧ x ≤ 255) (hl : code.length ≤ 1048576) : ∃ f l, p_spec_DrawApplyFaults code = some (f, l) ∧ S8 f.Blocks ∧ l.length ≤ 60 := by
  unfold p_spec_DrawApplyFaults
  obtain ⟨s, e0, o0⟩ := from_ok h hl
  obtain ⟨r, e1, q1, q2⟩ := flash_ok (o0.le (by omega))
  obtain ⟨t, e2, ht⟩ := scr8_ok ⟨r.1, r.2.1, r.2.2.1⟩ (q2.le (by omega))
  rw [e0, callK_some, e1, callK_some, e2, callK_some]
  exact ⟨_, _, rfl, q1, ht⟩

/-! ### Flips, as the program makes them -/
theorem get_mod {α : Type} (l : List α) (i k : Nat) (f : α → α) : (l.modify i f)[k]? = if i = k then (l[k]?).map f else l[k]? := by
  simp only [List.getElem?_modify]
  by_cases c : i = k
  · simp only [c, if_true]
    cases l[k]? <;> rfl
  · simp [c]
theorem msk_ok : ∀ k : Fin 8, IntKind.u8.wrap (1 * 2 ^ (min (Int.toNat ((k.val : Int))) IntKind.u8.bits)) = ((UInt8.ofNat (2 ^ k.val)).toNat : Int) := by decide +kernel
theorem flipped_ok (x : ByteArray) (bit : Int) (hx : x.size = 91) (hb : 0 ≤ bit ∧ bit ≤ 727) : p_impl_flippedBit x bit = some (flipB x bit.toNat) := by
  have hq : Int.tdiv bit 8 = bit / 8 := Int.tdiv_eq_ediv_of_nonneg hb.1
  have hr : Int.tmod bit 8 = bit % 8 := Int.tmod_eq_emod_of_nonneg hb.1
  have hw : IntKind.i64.wrap (Int.tdiv bit 8) = ((bit.toNat / 8 : Nat) : Int) := by rw [hq, wrap_sm _ (by omega) (by omega)]; omega
  have hl : (bytesL x).length = 91 := by unfold bytesL; rw [List.length_map, Array.length_toList]; exact hx
  have hbl : (bl x).length = 91 := by rw [bl_len]; exact hx
  have hi : bit.toNat / 8 < 91 := by omega
  unfold p_impl_flippedBit
  rw [grd_pos (appOk_of _ _ (by omega)), hw, getK_lt (by omega), grd_pos (by omega), bytesOf_rU]
  congr 1
  unfold flipB
  congr 1
  have hm : IntKind.u8.wrap (1 * 2 ^ (min (Int.toNat (Int.tmod bit 8)) IntKind.u8.bits)) = ((mskB bit.toNat).toNat : Int) := by
    have := msk_ok ⟨bit.toNat % 8, by omega⟩
    dsimp only at this
    rw [hr, show bit % 8 = ((bit.toNat % 8 : Nat) : Int) by omega]
    exact this
  refine List.ext_getElem? fun j => ?_
  rw [hm, Int.toNat_natCast, List.getElem?_map, get_mod]
  by_cases c : bit.toNat / 8 = j
  · subst c
    have e : (bytesL x)[bit.toNat / 8]'(by omega) = (((bl x)[bit.toNat / 8]'(by omega)).toNat : Int) := by
      unfold bytesL bl
      rw [List.getElem_map]
    rw [List.getElem?_set_self (by omega), if_pos rfl, List.getElem?_eq_getElem (by omega), e, xor_u8]
    simp
  · rw [List.getElem?_set_ne c, if_neg c]
    unfold bytesL bl
    rw [List.getElem?_map]
    cases x.data.toList[j]? with
    | none => rfl
    | some v => simp
theorem mod_id {α : Type} (l : List α) (i : Nat) (f : α → α) (h : ∀ (hi : i < l.length), f l[i] = l[i]) : l.modify i f = l := by
  refine List.ext_getElem? fun k => ?_
  rw [get_mod]
  by_cases c : i = k
  · subst c
    rw [if_pos rfl]
    by_cases hi : i < l.length
    · rw [List.getElem?_eq_getElem hi]
      exact congrArg some (h hi)
    · rw [List.getElem?_eq_none (by omega)]; rfl
  · rw [if_neg c]
theorem mod_set {α : Type} (l : List α) (i : Nat) (f : α → α) (h : i < l.length) : l.modify i f = l.set i (f l[i]) := by
  refine List.ext_getElem? fun k => ?_
  rw [get_mod]
  by_cases c : i = k
  · subst c
    rw [if_pos rfl, List.getElem?_set_self h, List.getElem?_eq_getElem h]; rfl
  · rw [if_neg c, List.getElem?_set_ne c]
theorem flip_ok (a0 a1 a2 a3 a4 : Int) (a5 : Bool) (a6 : Int) (P blk pg bit : Int) (L : List Block) (hL : LOk P L) (h1 : 0 ≤ blk ∧ blk < L.length) (h2 : 0 ≤ pg ∧ pg < P) (h3 : 0 ≤ bit ∧ bit ≤ 727) :
    p_impl_Flash_flip blk pg bit a0 a1 a2 a3 a4 a5 a6 L = some (flL L (blk.toNat, pg.toNat, bit.toNat)) ∧ LOk P (flL L (blk.toNat, pg.toNat, bit.toNat)) := by
  obtain ⟨L', _, e2, e3, _⟩ := pl_flip a0 a1 a2 a3 a4 a5 a6 P blk pg bit L hL h1 h2 h3
  have key : p_impl_Flash_flip blk pg bit a0 a1 a2 a3 a4 a5 a6 L = some (flL L (blk.toNat, pg.toNat, bit.toNat)) := by
    have hi : blk.toNat < L.length := by omega
    obtain ⟨k1, k2, k3, k4⟩ := hL _ (List.getElem_mem hi)
    have hp : pg.toNat < L[blk.toNat].Pages.length := by omega
    have hxk := k4 pg.toNat hp
    unfold p_impl_Flash_flip
    rw [getK_in h1.1 h1.2, getK_in h2.1 (by omega)]
    unfold flL
    dsimp only
    rw [mod_set _ _ _ hi]
    unfold flK
    rw [mod_set _ _ _ hp]
    unfold flP
    by_cases c : L[blk.toNat].Pages[pg.toNat].size = 0
    · rw [if_pos ((szE _).mpr c), if_pos c, List.set_getElem_self, List.set_getElem_self]
    · rw [if_neg (fun h => c ((szE _).mp h)), if_neg c, flipped_ok _ _ (hxk.resolve_left c).1 h3, callK_some]
  rw [e2] at key
  injection key with key
  subst key
  exact ⟨e2, e3⟩
/-- The flips of a fault. -/
def fs (P : Int) (x : Fault) : List (Nat × Nat × Nat) :=
  if x.Kind = 1 then [(x.Block.toNat, x.Page.toNat, x.Bit.toNat)]
  else if x.Kind = 2 then ((List.range P.toNat).filter fun (i : Nat) => decide ((i : Int) ≠ x.Page)).map fun (i : Nat) => (x.Block.toNat, i, x.Bit.toNat)
  else (List.range P.toNat).map fun (i : Nat) => (x.Block.toNat, i, ((x.Bit + 8 * (i : Int)) % 728).toNat)
theorem flips_len (l : List (Nat × Nat × Nat)) : ∀ L : List Block, (l.foldl flL L).length = L.length := by
  induction l with
  | nil => intro L; rfl
  | cons s l ih => intro L; rw [List.foldl_cons, ih, flL_len]
theorem fault_ok (D B P fu ke : Int) (off : Bool) (ops : Int) (x : Fault) (L : List Block) (hg : GOk ⟨D, B, P⟩) (hn : (L.length : Int) = D * B) (hL : LOk P L) (hx : FPr ⟨D, B, P⟩ x) (hk : x.Kind ≤ 3) :
    p_impl_Flash_fault x D B P fu ke off ops L = some (0, fu, ke, off, (fs P x).foldl flL L) := by
  have hP : P = 8 ∨ P = 16 := hg.2.2
  have hcase : ((x.Kind = 1 ∨ x.Kind = 2) ∧ (0 ≤ x.Block ∧ x.Block < D * B) ∧ (0 ≤ x.Page ∧ x.Page < P) ∧ (0 ≤ x.Bit ∧ x.Bit ≤ 727)) ∨ (x.Kind = 3 ∧ (0 ≤ x.Block ∧ x.Block < D * B) ∧ (0 ≤ x.Bit ∧ x.Bit ≤ 727)) := by
    rcases hx with h | h | h | h
    · exact .inl h
    · exact .inr h
    · exact absurd h.1 (by omega)
    · exact absurd h.1 (by omega)
  unfold p_impl_Flash_fault fs
  rcases hcase with ⟨k | k, hb, hp, ht⟩ | ⟨k, hb, ht⟩
  · rw [if_pos k, if_pos k, (flip_ok D B P fu ke off ops P x.Block x.Page x.Bit L hL (by rw [hn]; exact hb) hp ht).1]
    rfl
  · have k1 : ¬ x.Kind = 1 := by omega
    rw [if_neg k1, if_pos k, if_neg k1, if_pos k, grd_pos (by omega)]
    refine forI_rule (fun i (v : List Block) => v = (((List.range i).filter fun (i : Nat) => decide ((i : Int) ≠ x.Page)).map fun (i : Nat) => (x.Block.toNat, i, x.Bit.toNat)).foldl flL L ∧ LOk P v) (fun i hi v hv nx hnx => ?_) (fun v hv => by rw [hv.1]) _ ⟨rfl, hL⟩
    obtain ⟨hv, hvL⟩ := hv
    have hvn : v.length = L.length := by rw [hv, flips_len]
    by_cases c : (i : Int) = x.Page
    · rw [if_neg (by simpa using c)]
      refine hnx _ ⟨?_, hvL⟩
      rw [List.range_succ, List.filter_append, List.filter_cons_of_neg (by simpa using c), List.filter_nil, List.append_nil]
      exact hv
    · have hf := flip_ok D B P fu ke off ops P x.Block (i : Int) x.Bit v hvL (by rw [hvn, hn]; exact hb) (by omega) ht
      rw [if_pos c, hf.1, callK_some]
      refine hnx _ ⟨?_, hf.2⟩
      rw [List.range_succ, List.filter_append, List.filter_cons_of_pos (by simpa using c), List.filter_nil, List.map_append, List.foldl_append, ← hv, Int.toNat_natCast]
      rfl
  · have k1 : ¬ x.Kind = 1 := by omega
    have k2 : ¬ x.Kind = 2 := by omega
    rw [if_neg k1, if_neg k2, if_pos k, if_neg k1, if_neg k2, grd_pos (by omega)]
    refine forI_rule (fun i (v : List Block) => v = ((List.range i).map fun (i : Nat) => (x.Block.toNat, i, ((x.Bit + 8 * (i : Int)) % 728).toNat)).foldl flL L ∧ LOk P v) (fun i hi v hv nx hnx => ?_) (fun v hv => by rw [hv.1]) _ ⟨rfl, hL⟩
    obtain ⟨hv, hvL⟩ := hv
    have hvn : v.length = L.length := by rw [hv, flips_len]
    have hw : IntKind.i64.wrap (8 * (i : Int)) = 8 * (i : Int) := wrap_sm _ (by omega) (by omega)
    have hw2 : IntKind.i64.wrap (x.Bit + 8 * (i : Int)) = x.Bit + 8 * (i : Int) := wrap_sm _ (by omega) (by omega)
    have hm : Int.tmod (x.Bit + 8 * (i : Int)) 728 = (x.Bit + 8 * (i : Int)) % 728 := Int.tmod_eq_emod_of_nonneg (by omega)
    have hf := flip_ok D B P fu ke off ops P x.Block (i : Int) ((x.Bit + 8 * (i : Int)) % 728) v hvL (by rw [hvn, hn]; exact hb) (by omega) (by omega)
    rw [hw, hw2, hm, hf.1, callK_some]
    refine hnx _ ⟨?_, hf.2⟩
    rw [List.range_succ, List.map_append, List.foldl_append, ← hv, Int.toNat_natCast]
    rfl

/-! ### A script applied -/
abbrev SS := Int × Int × List Block
def st1 (P : Int) (s : SS) (x : Fault) : SS :=
  if x.Kind = 4 then (s.1, s.2.1, s.2.2.modify x.Block.toNat fun b => ⟨b.Erases, b.Next, true, b.Pages⟩)
  else if x.Kind = 5 then (x.Page, x.Bit, s.2.2)
  else (s.1, s.2.1, (fs P x).foldl flL s.2.2)
def OkS (D B P : Int) (s : SS) : Prop := LOk P s.2.2 ∧ (s.2.2.length : Int) = D * B ∧ (-1 ≤ s.1 ∧ s.1 ≤ 1000000) ∧ (0 ≤ s.2.1 ∧ s.2.1 ≤ 91)
theorem step_ok (D B P : Int) (off : Bool) (ops : Int) (x : Fault) (s : SS) (hg : GOk ⟨D, B, P⟩) (hs : OkS D B P s) (hx : FPr ⟨D, B, P⟩ x) (hc : x.Kind ≠ 5 ∨ off = false) :
    p_impl_Flash_fault x D B P s.1 s.2.1 off ops s.2.2 = some (0, (st1 P s x).1, (st1 P s x).2.1, off, (st1 P s x).2.2) ∧ p_spec_l08Apply D B P s.1 s.2.1 off ops x s.2.2 = some (st1 P s x) ∧ OkS D B P (st1 P s x) := by
  obtain ⟨fu, ke, L⟩ := s
  obtain ⟨hL, hn, hf, hk⟩ := hs
  dsimp only at hL hn hf hk ⊢
  obtain ⟨fu', ke', L', q1, q2, q3, q4, _⟩ := pl_step D B P fu ke off ops x L hg hn hL hx
  have hp := q4 hc
  have main : (fu', ke', L') = st1 P (fu, ke, L) x ∧ (-1 ≤ fu' ∧ fu' ≤ 1000000) ∧ (0 ≤ ke' ∧ ke' ≤ 91) := by
    unfold st1
    by_cases k4 : x.Kind = 4
    · rw [if_pos k4]
      have hb : 0 ≤ x.Block ∧ x.Block < D * B := by
        rcases hx with h | h | h | h
        · exact h.2.1
        · exact h.2.1
        · exact h.2
        · exact absurd h.1 (by omega)
      unfold p_impl_Flash_fault at hp
      rw [if_neg (by omega), if_neg (by omega), if_neg (by omega), if_pos k4, getK_in hb.1 (by omega)] at hp
      simp only [Option.some.injEq, Prod.mk.injEq, true_and] at hp
      obtain ⟨t1, t2, t3⟩ := hp
      dsimp only
      rw [mod_set _ _ _ (by omega)]
      exact ⟨Prod.ext t1.symm (Prod.ext t2.symm t3.symm), by omega, by omega⟩
    · rw [if_neg k4]
      by_cases k5 : x.Kind = 5
      · rw [if_pos k5]
        have hb : (0 ≤ x.Page ∧ x.Page ≤ 1000000) ∧ (0 ≤ x.Bit ∧ x.Bit ≤ 91) := by
          rcases hx with h | h | h | h
          · exact absurd h.1 (by omega)
          · exact absurd h.1 (by omega)
          · exact absurd h.1 (by omega)
          · exact h.2
        unfold p_spec_l08Apply at q1
        rw [if_neg (by omega), if_neg (by omega), if_neg (by omega), if_neg (by omega), if_pos k5] at q1
        simp only [Option.some.injEq, Prod.mk.injEq] at q1
        obtain ⟨rfl, rfl, rfl⟩ := q1
        exact ⟨rfl, by omega, hb.2⟩
      · rw [if_neg k5]
        have hk3 : x.Kind ≤ 3 := by
          rcases hx with h | h | h | h
          · omega
          · omega
          · exact absurd h.1 k4
          · exact absurd h.1 k5
        have h2 := fault_ok D B P fu ke off ops x L hg hn hL hx hk3
        rw [hp] at h2
        simp only [Option.some.injEq, Prod.mk.injEq, true_and] at h2
        obtain ⟨rfl, rfl, rfl⟩ := h2
        exact ⟨rfl, hf, hk⟩
  obtain ⟨m1, m2, m3⟩ := main
  rw [← m1]
  exact ⟨hp, q1, q2, by dsimp only; rw [q3]; exact hn, m2, m3⟩
theorem script2 (g : Geometry) (hg : GOk g) : ∃ p : Fault → Bool, (∀ x, p x = true → FPr g x) ∧ ∀ l : List Fault, l.length ≤ 60 → p_spec_l08Script g l = some (decide (l.length ≤ 40) && l.all p) ∧ p_impl_scriptOk g l = some (decide (l.length ≤ 40) && l.all p) := by
  obtain ⟨p, hp⟩ : ∃ p : Fault → Bool, ∀ x, p_spec_ValidFault g x = some (p x) ∧ p_impl_faultOk g x = some (p x) ∧ (p x = true → FPr g x) := by
    have := fun x => pl_fault g hg x
    exact ⟨fun x => (this x).choose, fun x => (this x).choose_spec⟩
  refine ⟨p, fun x => (hp x).2.2, fun l hl => ?_⟩
  obtain ⟨z, e, hz⟩ := pl_sGeo g
  have hz1 := hz.mpr hg
  subst hz1
  unfold p_spec_l08Script p_impl_scriptOk
  rw [pl_iGeo, e, callK_some, callK_some, if_pos rfl, if_pos rfl]
  by_cases h : (l.length : Int) > 40
  · rw [if_pos h, if_neg (by omega), decide_eq_false (by omega)]; exact ⟨rfl, rfl⟩
  rw [if_neg h, if_pos (by omega), grd_pos (by omega), decide_eq_true (by omega), Bool.true_and]
  have e1 := forK_all (l := l) (f := fun (i9 : Nat) x11 (_ : Unit) (nx10 : Unit → Option Bool) => callK (p_spec_ValidFault g x11) fun y12 => if y12 = true then nx10 () else some false) (k := fun _ => some true) p (some false) (fun i x nx => by rw [(hp x).1, callK_some])
  have e2 : p_slices_ContainsFunc_impl_scriptOk_c1 l g = some (l.any fun x => !p x) := by
    unfold p_slices_ContainsFunc_impl_scriptOk_c1 p_slices_IndexFunc_impl_scriptOk_c1
    rw [grd_pos (by omega)]
    have := forK_idx (f := fun x => p_impl_scriptOk_c1 x g) (p := fun x => !p x) (fun x => by unfold p_impl_scriptOk_c1; rw [(hp x).2.1, callK_some]) l
    rw [this]
    simp only [callK_some, idxP_any]
  rw [e2, callK_some]
  refine ⟨?_, ?_⟩
  · rw [show (forK l (fun (i9 : Nat) x11 (_ : Unit) (nx10 : Unit → Option Bool) => callK (p_spec_ValidFault g x11) fun y12 => if y12 = true then nx10 () else some false) () fun _ => some true) = _ from e1]
    cases l.all p <;> rfl
  · rw [any_notF]; simp
/-- The array behind a script. -/
def aft (f : Flash) (s : SS) : Flash := ⟨f.Geo, s.2.2, s.1, s.2.1, f.Off, f.Ops⟩
def run1 (f : Flash) (l : List Fault) : SS := l.foldl (st1 f.Geo.Pages) (f.Fuse, f.Keep, f.Blocks)
theorem VF.okS {f : Flash} (h : VF f) : OkS f.Geo.Dies f.Geo.Blocks f.Geo.Pages (f.Fuse, f.Keep, f.Blocks) := ⟨h.2.2.2.2.2, h.2.1, h.2.2.1, h.2.2.2.1⟩
theorem okS_VF {f : Flash} (h : VF f) {s : SS} (hs : OkS f.Geo.Dies f.Geo.Blocks f.Geo.Pages s) : VF (aft f s) := ⟨h.1, hs.2.1, hs.2.2.1, hs.2.2.2, h.2.2.2.2.1, hs.1⟩
theorem VF.fit {f : Flash} (h : VF f) : Fit f.Blocks := LOk.fit h.2.2.2.2.2 (by have := h.1.2.2; omega) (by have := h.1.all; have := h.2.1; omega)
theorem impl_ok {f : Flash} (h : VF f) {p : Fault → Bool} (hp : ∀ x, p x = true → FPr f.Geo x) (hsc : ∀ l : List Fault, l.length ≤ 60 → p_spec_l08Script f.Geo l = some (decide (l.length ≤ 40) && l.all p) ∧ p_impl_scriptOk f.Geo l = some (decide (l.length ≤ 40) && l.all p))
    (l : List Fault) (hl : l.length ≤ 40) (ha : l.all p = true) (hc : f.Off = true → ∀ x ∈ l, x.Kind ≠ 5) : p_impl_ApplyFaults f l = some (aft f (run1 f l), 0) ∧ OkS f.Geo.Dies f.Geo.Blocks f.Geo.Pages (run1 f l) := by
  obtain ⟨y, e, hy⟩ := pl_iVF f h.fit
  have hy1 := hy.mpr h
  subst hy1
  have inv : ∀ i, i ≤ l.length → OkS f.Geo.Dies f.Geo.Blocks f.Geo.Pages ((l.take i).foldl (st1 f.Geo.Pages) (f.Fuse, f.Keep, f.Blocks)) := by
    intro i
    induction i with
    | zero => intro _; exact h.okS
    | succ i ih =>
      intro hi
      rw [List.take_succ_eq_append_getElem (by omega), List.foldl_append]
      have hx := List.getElem_mem (show i < l.length by omega)
      exact (step_ok _ _ _ f.Off f.Ops l[i] _ h.1 (ih (by omega)) (hp _ (List.all_eq_true.mp ha _ hx)) (by
        cases ho : f.Off with
        | false => exact .inr rfl
        | true => exact .inl (hc ho _ hx))).2.2
  have hend := inv l.length (Nat.le_refl _)
  rw [List.take_length] at hend
  refine ⟨?_, hend⟩
  unfold p_impl_ApplyFaults
  rw [e, callK_some, if_pos rfl, (hsc l (by omega)).2, callK_some, decide_eq_true hl, ha, Bool.and_true, if_pos rfl, pl_clone f h.fit, callK_some, grd_pos (by omega)]
  refine forK_rule (fun i (s : Int × Int × Bool × List Block) => s = (((l.take i).foldl (st1 f.Geo.Pages) (f.Fuse, f.Keep, f.Blocks)).1, ((l.take i).foldl (st1 f.Geo.Pages) (f.Fuse, f.Keep, f.Blocks)).2.1, f.Off, ((l.take i).foldl (st1 f.Geo.Pages) (f.Fuse, f.Keep, f.Blocks)).2.2)) (fun i hi s hs nx hnx => ?_) (fun s hs => ?_) _ rfl
  · subst hs
    have hx := List.getElem_mem hi
    have := (step_ok _ _ _ f.Off f.Ops l[i] _ h.1 (inv i (by omega)) (hp _ (List.all_eq_true.mp ha _ hx)) (by
        cases ho : f.Off with
        | false => exact .inr rfl
        | true => exact .inl (hc ho _ hx))).1
    dsimp only
    rw [this, callK_some]
    dsimp only
    rw [if_neg (by decide)]
    refine hnx _ ?_
    rw [List.take_succ_eq_append_getElem hi, List.foldl_append]
    rfl
  · rw [List.take_length] at hs
    subst hs
    rfl
theorem spec_loop {f : Flash} (h : VF f) {p : Fault → Bool} (hp : ∀ x, p x = true → FPr f.Geo x) (l : List Fault) (ha : l.all p = true) (off : Bool) (hc : off = true → ∀ x ∈ l, x.Kind ≠ 5) :
    ∃ g, forK l (fun (i21 : Nat) x31 ((v22, v23, v24, v25, v26, v27, v28, v29) : (Int × Int × Int × Int × Int × Bool × Int × (List Block))) (nx30 : (Int × Int × Int × Int × Int × Bool × Int × (List Block)) → Option (Flash × Int)) =>
            callK (p_spec_l08Apply v22 v23 v24 v25 v26 v27 v28 x31 v29) fun y32 =>
            nx30 (v22, v23, v24, y32.1, y32.2.1, v27, v28, y32.2.2)) (f.Geo.Dies, f.Geo.Blocks, f.Geo.Pages, f.Fuse, f.Keep, off, f.Ops, f.Blocks) (fun ((v22, v23, v24, v25, v26, v27, v28, v29) : (Int × Int × Int × Int × Int × Bool × Int × (List Block))) =>
            some ((⟨⟨v22, v23, v24⟩, v29, v25, v26, v27, v28⟩ : Flash), 0)) = some (g, 0) := by
  have := forK_ex (Q := fun (r : Flash × Int) => r.2 = 0) (l := l) (f := fun (i21 : Nat) x31 ((v22, v23, v24, v25, v26, v27, v28, v29) : (Int × Int × Int × Int × Int × Bool × Int × (List Block))) (nx30 : (Int × Int × Int × Int × Int × Bool × Int × (List Block)) → Option (Flash × Int)) =>
            callK (p_spec_l08Apply v22 v23 v24 v25 v26 v27 v28 x31 v29) fun y32 =>
            nx30 (v22, v23, v24, y32.1, y32.2.1, v27, v28, y32.2.2)) (k := fun ((v22, v23, v24, v25, v26, v27, v28, v29) : (Int × Int × Int × Int × Int × Bool × Int × (List Block))) =>
            some ((⟨⟨v22, v23, v24⟩, v29, v25, v26, v27, v28⟩ : Flash), 0))
    (fun i (s : Int × Int × Int × Int × Int × Bool × Int × List Block) => ∃ t : SS, s = (f.Geo.Dies, f.Geo.Blocks, f.Geo.Pages, t.1, t.2.1, off, f.Ops, t.2.2) ∧ OkS f.Geo.Dies f.Geo.Blocks f.Geo.Pages t) (fun i hi s hs nx hnx => by
      obtain ⟨t, rfl, ht⟩ := hs
      have hx := List.getElem_mem hi
      obtain ⟨_, q2, q3⟩ := step_ok _ _ _ off f.Ops l[i] t h.1 ht (hp _ (List.all_eq_true.mp ha _ hx)) (by
        cases ho : off with
        | false => exact .inr rfl
        | true => exact .inl (hc ho _ hx))
      dsimp only
      rw [q2, callK_some]
      exact hnx _ ⟨_, rfl, q3⟩) (fun s hs => by
      obtain ⟨t, rfl, ht⟩ := hs
      exact ⟨_, rfl, rfl⟩) (f.Geo.Dies, f.Geo.Blocks, f.Geo.Pages, f.Fuse, f.Keep, off, f.Ops, f.Blocks) ⟨_, rfl, h.okS⟩
  obtain ⟨⟨g, c⟩, e, rfl⟩ := this
  exact ⟨g, e⟩
theorem cut_ok {f : Flash} (h : VF f) {p : Fault → Bool} (hp : ∀ x, p x = true → FPr f.Geo x) (hsc : ∀ l : List Fault, l.length ≤ 60 → p_spec_l08Script f.Geo l = some (decide (l.length ≤ 40) && l.all p) ∧ p_impl_scriptOk f.Geo l = some (decide (l.length ≤ 40) && l.all p))
    (l : List Fault) (hl : l.length ≤ 40) (ha : l.all p = true) (ho : f.Off = true) (hk : ∃ x ∈ l, x.Kind = 5) : ∃ g, p_impl_ApplyFaults f l = some (g, 8) := by
  obtain ⟨y, e, hy⟩ := pl_iVF f h.fit
  have hy1 := hy.mpr h
  subst hy1
  unfold p_impl_ApplyFaults
  rw [e, callK_some, if_pos rfl, (hsc l (by omega)).2, callK_some, decide_eq_true hl, ha, Bool.and_true, if_pos rfl, pl_clone f h.fit, callK_some, grd_pos (by omega)]
  refine ⟨⟨⟨0, 0, 0⟩, [], 0, 0, false, 0⟩, ?_⟩
  refine forK_rule (fun i (s : Int × Int × Bool × List Block) => (∃ t : SS, s = (t.1, t.2.1, f.Off, t.2.2) ∧ OkS f.Geo.Dies f.Geo.Blocks f.Geo.Pages t) ∧ ∀ x ∈ l.take i, x.Kind ≠ 5) (fun i hi s hs nx hnx => ?_) (fun s hs => ?_) _ ⟨⟨_, rfl, h.okS⟩, by simp⟩
  · obtain ⟨⟨t, rfl, ht⟩, hn⟩ := hs
    have hx := List.getElem_mem hi
    have hfp := hp _ (List.all_eq_true.mp ha _ hx)
    dsimp only
    by_cases c : l[i].Kind = 5
    · obtain ⟨_, _, _, _, _, _, _, q5⟩ := pl_step f.Geo.Dies f.Geo.Blocks f.Geo.Pages t.1 t.2.1 f.Off f.Ops l[i] t.2.2 h.1 ht.2.1 ht.1 hfp
      obtain ⟨r, er, hr⟩ := q5 c ho
      rw [er, callK_some, if_pos (by rw [hr]; decide), hr]
    · obtain ⟨q1, _, q3⟩ := step_ok _ _ _ f.Off f.Ops l[i] t h.1 ht hfp (.inl c)
      rw [q1, callK_some]
      dsimp only
      rw [if_neg (by decide)]
      refine hnx _ ⟨⟨_, rfl, q3⟩, fun x hx => ?_⟩
      rw [List.take_succ_eq_append_getElem hi, List.mem_append, List.mem_singleton] at hx
      rcases hx with hx | rfl
      · exact hn x hx
      · exact c
  · rw [List.take_length] at hs
    obtain ⟨x, hx, hx5⟩ := hk
    exact absurd hx5 (hs.2 x hx)
theorem equal_self (l : List ByteArray) (h : l.length ≤ 1048576) : p_slices_Equal l l = some true := by
  unfold p_slices_Equal
  rw [if_neg (by simp), grd_pos (by omega)]
  refine forK_rule (fun _ _ => True) (fun i hi s _ nx hnx => ?_) (fun s _ => rfl) () trivial
  rw [getK_lt hi, if_pos (by simp)]
  exact hnx () trivial
theorem same_self {f : Flash} (h : Fit f.Blocks) : p_impl_SameFlash f f = some true := by
  have hl := h.len
  unfold p_impl_SameFlash
  have e : p_slices_EqualFunc_impl_sameBlock f.Blocks f.Blocks = some true := by
    unfold p_slices_EqualFunc_impl_sameBlock
    rw [if_neg (by simp), grd_pos (by omega)]
    refine forK_rule (fun _ _ => True) (fun i hi s _ nx hnx => ?_) (fun s _ => rfl) () trivial
    unfold p_impl_sameBlock
    rw [getK_lt hi, if_pos rfl, if_pos rfl, if_pos (by simp), equal_self _ (h.pg (List.getElem_mem hi)), callK_some, callK_some, if_pos rfl]
    exact hnx () trivial
  rw [if_pos (by simp), e, callK_some, if_pos rfl, if_pos rfl, if_pos rfl, if_pos (by simp)]
  simp
theorem flips_fold (P : Int) : ∀ (l : List Fault) (s : SS), (∀ x ∈ l, x.Kind ≤ 3) → l.foldl (st1 P) s = (s.1, s.2.1, (l.flatMap (fs P)).foldl flL s.2.2)
  | [], s, _ => rfl
  | x :: l, s, h => by
    have h1 := h x (by simp)
    rw [List.foldl_cons, flips_fold P l _ (fun y hy => h y (by simp [hy])), List.flatMap_cons, List.foldl_append]
    unfold st1
    rw [if_neg (by omega), if_neg (by omega)]
theorem pl_law (code : List Int) (hk : okL u8r code) : p_laws_FnFaultsTwice code = some true := by
  unfold p_laws_FnFaultsTwice
  by_cases hc : (code.length : Int) > 400
  · rw [if_pos hc]
  rw [if_neg hc]
  obtain ⟨f, l, e0, hS, hl60⟩ := dr_ok hk.2 (by omega)
  rw [e0, callK_some]
  dsimp only
  obtain ⟨y, e, hy⟩ := pl_sVF f hS.fit
  obtain ⟨y', e', hy'⟩ := pl_iVF f hS.fit
  have hyy : y' = y := by
    have : (y' = true) ↔ (y = true) := hy'.trans hy.symm
    cases y <;> cases y' <;> simp_all
  subst hyy
  by_cases h0 : y' = true
  rotate_left
  · have y0 : y' = false := by simpa using h0
    subst y0
    have g1 : p_impl_ApplyFaults f l = some (⟨⟨0, 0, 0⟩, [], 0, 0, false, 0⟩, 1) := by unfold p_impl_ApplyFaults; rw [e', callK_some, if_neg (by decide)]
    have g2 : p_spec_ApplyFaults f l = some (⟨⟨0, 0, 0⟩, [], 0, 0, false, 0⟩, 1) := by unfold p_spec_ApplyFaults; rw [e, callK_some, if_neg (by decide)]
    rw [g1, g2, callK_some, callK_some, if_neg (by simp), if_pos (by simp)]
  have hv := hy'.mp h0
  subst h0
  obtain ⟨p, hp, hsc⟩ := script2 f.Geo hv.1
  obtain ⟨s1, s2⟩ := hsc l hl60
  by_cases h1 : (decide (l.length ≤ 40) && l.all p) = true
  rotate_left
  · have g1 : p_impl_ApplyFaults f l = some (⟨⟨0, 0, 0⟩, [], 0, 0, false, 0⟩, 1) := by unfold p_impl_ApplyFaults; rw [e', callK_some, if_pos rfl, s2, callK_some, if_neg h1]
    have g2 : p_spec_ApplyFaults f l = some (⟨⟨0, 0, 0⟩, [], 0, 0, false, 0⟩, 1) := by unfold p_spec_ApplyFaults; rw [e, callK_some, if_pos rfl, s1, callK_some, if_neg h1]
    rw [g1, g2, callK_some, callK_some, if_neg (by simp), if_pos (by simp)]
  rw [Bool.and_eq_true, decide_eq_true_eq] at h1
  obtain ⟨hl40, ha⟩ := h1
  obtain ⟨cu, ecu, hcu⟩ := pl_cuts l hl40
  by_cases hcut : f.Off = true ∧ cu = true
  · obtain ⟨ho, hcu1⟩ := hcut
    obtain ⟨g, eg⟩ := cut_ok hv hp hsc l hl40 ha ho (hcu.mp hcu1)
    have g2 : p_spec_ApplyFaults f l = some (⟨⟨0, 0, 0⟩, [], 0, 0, false, 0⟩, 8) := by
      unfold p_spec_ApplyFaults
      rw [e, callK_some, if_pos rfl, s1, callK_some, decide_eq_true hl40, ha, Bool.and_true, if_pos rfl, if_pos ho, ecu, callK_some, if_pos hcu1]
    rw [eg, g2, callK_some, callK_some, if_neg (by simp), if_pos (by simp)]
  have hno : f.Off = true → ∀ x ∈ l, x.Kind ≠ 5 := fun ho x hx h5 => hcut ⟨ho, hcu.mpr ⟨x, hx, h5⟩⟩
  obtain ⟨i1, i2⟩ := impl_ok hv hp hsc l hl40 ha hno
  have g2 : ∃ g, p_spec_ApplyFaults f l = some (g, 0) := by
    unfold p_spec_ApplyFaults
    rw [e, callK_some, if_pos rfl, s1, callK_some, decide_eq_true hl40, ha, Bool.and_true, if_pos rfl]
    by_cases ho : f.Off = true
    · have hcf : cu = false := by
        cases cu with
        | false => rfl
        | true => exact absurd ⟨ho, rfl⟩ hcut
      rw [if_pos ho, ecu, callK_some, hcf, if_neg (by decide), pl_own ⟨f.Geo, f.Blocks, f.Fuse, f.Keep, true, f.Ops⟩ (show Fit f.Blocks from hv.fit), callK_some, grd_pos (by omega)]
      exact spec_loop hv hp l ha true fun _ => hno ho
    · rw [if_neg ho, pl_own ⟨f.Geo, f.Blocks, f.Fuse, f.Keep, false, f.Ops⟩ (show Fit f.Blocks from hv.fit), callK_some, grd_pos (by omega)]
      exact spec_loop hv hp l ha false fun h => by simp at h
  obtain ⟨g, eg⟩ := g2
  have hvx := okS_VF hv i2
  rw [i1, eg, callK_some, callK_some, if_neg (by simp), if_neg (by simp), grd_pos (by omega)]
  refine forK_rule (fun i (s : Bool × Flash) => s.1 = ((l.take i).all fun x => decide (x.Kind ≤ 3)) ∧ ∃ t : SS, t = (l.take i).foldl (st1 f.Geo.Pages) (f.Fuse, f.Keep, f.Blocks) ∧ s.2 = aft f t ∧ OkS f.Geo.Dies f.Geo.Blocks f.Geo.Pages t) (fun i hi s hs nx hnx => ?_) (fun s hs => ?_) _ ⟨rfl, _, rfl, rfl, hv.okS⟩
  · obtain ⟨v16, v17⟩ := s
    obtain ⟨hfl, t, ht, hs2, hok⟩ := hs
    dsimp only at hfl hs2 ⊢
    subst hs2
    have hx := List.getElem_mem hi
    have hpx := List.all_eq_true.mp ha _ hx
    have hvt := okS_VF hv hok
    obtain ⟨j1, j2⟩ := impl_ok hvt (p := p) hp hsc [l[i]] (by simp) (by simp [hpx]) (fun ho x hxx => by
      rw [List.mem_singleton] at hxx
      subst hxx
      exact hno ho _ hx)
    have hrun : run1 (aft f t) [l[i]] = st1 f.Geo.Pages t l[i] := rfl
    have haft : aft (aft f t) (st1 f.Geo.Pages t l[i]) = aft f (st1 f.Geo.Pages t l[i]) := rfl
    unfold p_impl_ApplyFault
    rw [j1, callK_some, callK_some, hrun, haft]
    dsimp only
    rw [if_neg (by decide)]
    rw [hrun] at j2
    have hnew : st1 f.Geo.Pages t l[i] = (l.take (i + 1)).foldl (st1 f.Geo.Pages) (f.Fuse, f.Keep, f.Blocks) := by
      rw [List.take_succ_eq_append_getElem hi, List.foldl_append, ← ht]
      rfl
    have hall : ((l.take (i + 1)).all fun x => decide (x.Kind ≤ 3)) = (((l.take i).all fun x => decide (x.Kind ≤ 3)) && decide (l[i].Kind ≤ 3)) := by
      rw [List.take_succ_eq_append_getElem hi, List.all_append]
      simp
    cases hv16 : v16 with
    | true =>
      rw [if_pos rfl]
      exact hnx _ ⟨by rw [hall, ← hfl, hv16, Bool.true_and], _, hnew, rfl, j2⟩
    | false =>
      rw [if_neg (by decide)]
      exact hnx _ ⟨by rw [hall, ← hfl, hv16, Bool.false_and], _, hnew, rfl, j2⟩
  · obtain ⟨v16, v17⟩ := s
    rw [List.take_length] at hs
    obtain ⟨hfl, t, ht, hs2, hok⟩ := hs
    dsimp only at hfl hs2 ⊢
    subst hs2
    have ht2 : run1 f l = t := by rw [ht]; rfl
    rw [ht2] at hvx i2 ⊢
    rw [same_self hvx.fit, callK_some, if_pos rfl]
    cases hv16 : v16 with
    | false => rw [if_neg (by decide)]
    | true =>
      rw [hv16] at hfl
      have hk3 : ∀ x ∈ l, x.Kind ≤ 3 := fun x hx => by simpa using List.all_eq_true.mp hfl.symm x hx
      obtain ⟨j1, _⟩ := impl_ok hvx (p := p) hp hsc l hl40 ha hno
      have hback : aft (aft f t) (run1 (aft f t) l) = f := by
        have e1 : run1 (aft f t) l = (f.Fuse, f.Keep, f.Blocks) := by
          have e2 : run1 (aft f t) l = l.foldl (st1 f.Geo.Pages) t := rfl
          rw [e2, ht, flips_fold _ l _ hk3, flips_fold _ l _ hk3]
          dsimp only
          rw [flips_twice]
        rw [e1]
        rfl
      rw [if_pos rfl, j1, callK_some, hback]
      dsimp only
      rw [if_pos rfl, same_self hv.fit, callK_some]
theorem f_law (code : List Int) (hk : okL u8r code) : callL E 7 [.d (.arr (code.map rU))] [] = some (BO true, []) := L_laws_FnFaultsTwice code (pl_law code hk)



end Go.Proofs.Ytjnhclnnobejgaa.T04

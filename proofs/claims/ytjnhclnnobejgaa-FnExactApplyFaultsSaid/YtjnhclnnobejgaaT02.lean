/- The engine's tables for laws.FnExactApplyFaults, and that they are the program's own; conditions: none. -/

import Derived.Test.YtjnhclnnobejgaaEsi
import Derived.Test.YtjnhclnnobejgaaChecked
import Derived.KernelRfl
namespace Go.Proofs.Ytjnhclnnobejgaa.T02
open Go.Proofs.YtjnhclnnobejgaaE

noncomputable def tys : List (Nat × TI) := [(2, ⟨(Go.TypeDesc.int Go.IntKind.i64), 1, 8, (.int .i64 0)⟩),
  (3, ⟨(Go.TypeDesc.int Go.IntKind.i64), 1, 8, (.int .i64 0)⟩),
  (4, ⟨Go.TypeDesc.bool, 1, 1, (.bool false)⟩),
  (5, ⟨(Go.TypeDesc.int Go.IntKind.u8), 1, 1, (.int .u8 0)⟩),
  (9, ⟨Go.TypeDesc.string, 1, 16, (.string ⟨#[]⟩)⟩),
  (40, ⟨(Go.TypeDesc.struct #[{ name := "Dies", type := 2, offset := 0, embedded := Bool.false, tag := "", pkgPath := "", byteOffset := 0 }, { name := "Blocks", type := 2, offset := 1, embedded := Bool.false, tag := "", pkgPath := "", byteOffset := 8 }, { name := "Pages", type := 2, offset := 2, embedded := Bool.false, tag := "", pkgPath := "", byteOffset := 16 }]), 3, 24, (.agg #[(.int .i64 0), (.int .i64 0), (.int .i64 0)])⟩),
  (41, ⟨(Go.TypeDesc.slice 226), 1, 24, (.slice none 0 0)⟩),
  (43, ⟨(Go.TypeDesc.struct #[{ name := "Geo", type := 40, offset := 0, embedded := Bool.false, tag := "", pkgPath := "", byteOffset := 0 }, { name := "Blocks", type := 41, offset := 3, embedded := Bool.false, tag := "", pkgPath := "", byteOffset := 24 }, { name := "Fuse", type := 2, offset := 4, embedded := Bool.false, tag := "", pkgPath := "", byteOffset := 48 }, { name := "Keep", type := 2, offset := 5, embedded := Bool.false, tag := "", pkgPath := "", byteOffset := 56 }, { name := "Off", type := 4, offset := 6, embedded := Bool.false, tag := "", pkgPath := "", byteOffset := 64 }, { name := "Ops", type := 2, offset := 7, embedded := Bool.false, tag := "", pkgPath := "", byteOffset := 72 }]), 8, 80, (.agg #[(.int .i64 0), (.int .i64 0), (.int .i64 0), (.slice none 0 0), (.int .i64 0), (.int .i64 0), (.bool false), (.int .i64 0)])⟩),
  (45, ⟨(Go.TypeDesc.struct #[{ name := "Kind", type := 2, offset := 0, embedded := Bool.false, tag := "", pkgPath := "", byteOffset := 0 }, { name := "Block", type := 2, offset := 1, embedded := Bool.false, tag := "", pkgPath := "", byteOffset := 8 }, { name := "Page", type := 2, offset := 2, embedded := Bool.false, tag := "", pkgPath := "", byteOffset := 16 }, { name := "Bit", type := 2, offset := 3, embedded := Bool.false, tag := "", pkgPath := "", byteOffset := 24 }]), 4, 32, (.agg #[(.int .i64 0), (.int .i64 0), (.int .i64 0), (.int .i64 0)])⟩),
  (47, ⟨(Go.TypeDesc.struct #[{ name := "Dies", type := 2, offset := 0, embedded := Bool.false, tag := "", pkgPath := "", byteOffset := 0 }, { name := "Blocks", type := 2, offset := 1, embedded := Bool.false, tag := "", pkgPath := "", byteOffset := 8 }, { name := "Pages", type := 2, offset := 2, embedded := Bool.false, tag := "", pkgPath := "", byteOffset := 16 }]), 3, 24, (.agg #[(.int .i64 0), (.int .i64 0), (.int .i64 0)])⟩),
  (48, ⟨(Go.TypeDesc.slice 91), 1, 24, (.slice none 0 0)⟩),
  (50, ⟨(Go.TypeDesc.struct #[{ name := "Geo", type := 47, offset := 0, embedded := Bool.false, tag := "", pkgPath := "", byteOffset := 0 }, { name := "Blocks", type := 48, offset := 3, embedded := Bool.false, tag := "", pkgPath := "", byteOffset := 24 }, { name := "Fuse", type := 2, offset := 4, embedded := Bool.false, tag := "", pkgPath := "", byteOffset := 48 }, { name := "Keep", type := 2, offset := 5, embedded := Bool.false, tag := "", pkgPath := "", byteOffset := 56 }, { name := "Off", type := 4, offset := 6, embedded := Bool.false, tag := "", pkgPath := "", byteOffset := 64 }, { name := "Ops", type := 2, offset := 7, embedded := Bool.false, tag := "", pkgPath := "", byteOffset := 72 }]), 8, 80, (.agg #[(.int .i64 0), (.int .i64 0), (.int .i64 0), (.slice none 0 0), (.int .i64 0), (.int .i64 0), (.bool false), (.int .i64 0)])⟩),
  (51, ⟨(Go.TypeDesc.tuple #[50, 2]), 1, 0, (.tuple #[(.agg #[(.int .i64 0), (.int .i64 0), (.int .i64 0), (.slice none 0 0), (.int .i64 0), (.int .i64 0), (.bool false), (.int .i64 0)]), (.int .i64 0)])⟩),
  (54, ⟨(Go.TypeDesc.struct #[{ name := "Kind", type := 2, offset := 0, embedded := Bool.false, tag := "", pkgPath := "", byteOffset := 0 }, { name := "Block", type := 2, offset := 1, embedded := Bool.false, tag := "", pkgPath := "", byteOffset := 8 }, { name := "Page", type := 2, offset := 2, embedded := Bool.false, tag := "", pkgPath := "", byteOffset := 16 }, { name := "Bit", type := 2, offset := 3, embedded := Bool.false, tag := "", pkgPath := "", byteOffset := 24 }]), 4, 32, (.agg #[(.int .i64 0), (.int .i64 0), (.int .i64 0), (.int .i64 0)])⟩),
  (59, ⟨(Go.TypeDesc.slice 45), 1, 24, (.slice none 0 0)⟩),
  (62, ⟨(Go.TypeDesc.slice 54), 1, 24, (.slice none 0 0)⟩),
  (78, ⟨(Go.TypeDesc.slice 5), 1, 24, (.slice none 0 0)⟩),
  (89, ⟨(Go.TypeDesc.slice 9), 1, 24, (.slice none 0 0)⟩),
  (91, ⟨(Go.TypeDesc.struct #[{ name := "Erases", type := 2, offset := 0, embedded := Bool.false, tag := "", pkgPath := "", byteOffset := 0 }, { name := "Next", type := 2, offset := 1, embedded := Bool.false, tag := "", pkgPath := "", byteOffset := 8 }, { name := "Bad", type := 4, offset := 2, embedded := Bool.false, tag := "", pkgPath := "", byteOffset := 16 }, { name := "Pages", type := 89, offset := 3, embedded := Bool.false, tag := "", pkgPath := "", byteOffset := 24 }]), 4, 48, (.agg #[(.int .i64 0), (.int .i64 0), (.bool false), (.slice none 0 0)])⟩),
  (96, ⟨(Go.TypeDesc.tuple #[9, 2]), 1, 0, (.tuple #[(.string ⟨#[]⟩), (.int .i64 0)])⟩),
  (197, ⟨(Go.TypeDesc.int Go.IntKind.u64), 1, 8, (.int .u64 0)⟩),
  (207, ⟨(Go.TypeDesc.pointer 50), 1, 8, (.pointer none)⟩),
  (226, ⟨(Go.TypeDesc.struct #[{ name := "Erases", type := 2, offset := 0, embedded := Bool.false, tag := "", pkgPath := "", byteOffset := 0 }, { name := "Next", type := 2, offset := 1, embedded := Bool.false, tag := "", pkgPath := "", byteOffset := 8 }, { name := "Bad", type := 4, offset := 2, embedded := Bool.false, tag := "", pkgPath := "", byteOffset := 16 }, { name := "Pages", type := 89, offset := 3, embedded := Bool.false, tag := "", pkgPath := "", byteOffset := 24 }]), 4, 48, (.agg #[(.int .i64 0), (.int .i64 0), (.bool false), (.slice none 0 0)])⟩),
  (233, ⟨(Go.TypeDesc.func #[91] #[4] Bool.false), 1, 8, .nilFunc⟩),
  (235, ⟨(Go.TypeDesc.func #[54] #[4] Bool.false), 1, 8, .nilFunc⟩),
  (260, ⟨(Go.TypeDesc.pointer 91), 1, 8, (.pointer none)⟩),
  (294, ⟨(Go.TypeDesc.pointer 9), 1, 8, (.pointer none)⟩)]

theorem tys_ok : ∀ p ∈ tys, ∃ ti, Try.prog.info? p.1 = some ti ∧ Try.prog.underlying p.1 = some p.2.desc ∧ ti.size = p.2.size ∧ ti.bytes = p.2.bytes ∧ ti.zero = some p.2.zero := by
  intro p hp
  simp only [tys, List.mem_cons, List.not_mem_nil, or_false] at hp
  rcases hp with rfl | rfl | rfl | rfl | rfl | rfl | rfl | rfl | rfl | rfl | rfl | rfl | rfl | rfl | rfl | rfl | rfl | rfl | rfl | rfl | rfl | rfl | rfl | rfl | rfl | rfl | rfl
  · exact info_of (by kernel_rfl) Try.underlying2
  · exact info_of (by kernel_rfl) Try.underlying3
  · exact info_of (by kernel_rfl) Try.underlying4
  · exact info_of (by kernel_rfl) Try.underlying5
  · exact info_of (by kernel_rfl) Try.underlying9
  · exact info_of (by kernel_rfl) Try.underlying40
  · exact info_of (by kernel_rfl) Try.underlying41
  · exact info_of (by kernel_rfl) Try.underlying43
  · exact info_of (by kernel_rfl) Try.underlying45
  · exact info_of (by kernel_rfl) Try.underlying47
  · exact info_of (by kernel_rfl) Try.underlying48
  · exact info_of (by kernel_rfl) Try.underlying50
  · exact info_of (by kernel_rfl) Try.underlying51
  · exact info_of (by kernel_rfl) Try.underlying54
  · exact info_of (by kernel_rfl) Try.underlying59
  · exact info_of (by kernel_rfl) Try.underlying62
  · exact info_of (by kernel_rfl) Try.underlying78
  · exact info_of (by kernel_rfl) Try.underlying89
  · exact info_of (by kernel_rfl) Try.underlying91
  · exact info_of (by kernel_rfl) Try.underlying96
  · exact info_of (by kernel_rfl) Try.underlying197
  · exact info_of (by kernel_rfl) Try.underlying207
  · exact info_of (by kernel_rfl) Try.underlying226
  · exact info_of (by kernel_rfl) Try.underlying233
  · exact info_of (by kernel_rfl) Try.underlying235
  · exact info_of (by kernel_rfl) Try.underlying260
  · exact info_of (by kernel_rfl) Try.underlying294

noncomputable def fns : List (Nat × Func) := [(273, Try.f273), (190, Try.f190), (104, Try.f104), (27, Try.f27), (105, Try.f105), (274, Try.f274), (191, Try.f191), (106, Try.f106), (29, Try.f29), (107, Try.f107), (275, Try.f275), (192, Try.f192), (108, Try.f108), (32, Try.f32), (101, Try.f101), (193, Try.f193), (109, Try.f109), (33, Try.f33), (194, Try.f194), (110, Try.f110), (34, Try.f34), (35, Try.f35), (142, Try.f142), (141, Try.f141), (143, Try.f143), (54, Try.f54), (195, Try.f195), (111, Try.f111), (112, Try.f112), (113, Try.f113), (238, Try.f238), (196, Try.f196), (114, Try.f114), (36, Try.f36), (30, Try.f30), (37, Try.f37), (157, Try.f157), (197, Try.f197), (198, Try.f198), (276, Try.f276), (199, Try.f199), (201, Try.f201), (200, Try.f200), (115, Try.f115), (277, Try.f277), (202, Try.f202), (204, Try.f204), (203, Try.f203), (116, Try.f116), (117, Try.f117), (153, Try.f153), (278, Try.f278), (207, Try.f207), (118, Try.f118), (38, Try.f38), (119, Try.f119), (39, Try.f39), (40, Try.f40), (5, Try.f5)]

theorem fns_ok : ∀ p ∈ fns, Try.prog.funcs[p.1]? = some p.2 ∧ (p.2.name == "runtime.NumGoroutine") = false ∧ drawsF [5, 27, 32, 34, 35, 39, 54, 104, 107, 108, 110, 111, 112, 113, 115, 116, 117, 119, 141, 142, 143, 157, 190, 192, 194, 195, 197, 198, 201, 204, 273, 275, 278, 1000078, 4000091, 5000078, 2000043, 2000050, 2000069, 2000071, 2000083, 2000091, 2000117, 2000121, 2000203, 2000226, 2000240, 2000267, 2000278] [] p.2 = true := by
  intro p hp
  simp only [fns, List.mem_cons, List.not_mem_nil, or_false] at hp
  rcases hp with rfl | rfl | rfl | rfl | rfl | rfl | rfl | rfl | rfl | rfl | rfl | rfl | rfl | rfl | rfl | rfl | rfl | rfl | rfl | rfl | rfl | rfl | rfl | rfl | rfl | rfl | rfl | rfl | rfl | rfl | rfl | rfl | rfl | rfl | rfl | rfl | rfl | rfl | rfl | rfl | rfl | rfl | rfl | rfl | rfl | rfl | rfl | rfl | rfl | rfl | rfl | rfl | rfl | rfl | rfl | rfl | rfl | rfl | rfl
  · exact ⟨Try.func273, by kernel_rfl, by kernel_rfl⟩
  · exact ⟨Try.func190, by kernel_rfl, by kernel_rfl⟩
  · exact ⟨Try.func104, by kernel_rfl, by kernel_rfl⟩
  · exact ⟨Try.func27, by kernel_rfl, by kernel_rfl⟩
  · exact ⟨Try.func105, by kernel_rfl, by kernel_rfl⟩
  · exact ⟨Try.func274, by kernel_rfl, by kernel_rfl⟩
  · exact ⟨Try.func191, by kernel_rfl, by kernel_rfl⟩
  · exact ⟨Try.func106, by kernel_rfl, by kernel_rfl⟩
  · exact ⟨Try.func29, by kernel_rfl, by kernel_rfl⟩
  · exact ⟨Try.func107, by kernel_rfl, by kernel_rfl⟩
  · exact ⟨Try.func275, by kernel_rfl, by kernel_rfl⟩
  · exact ⟨Try.func192, by kernel_rfl, by kernel_rfl⟩
  · exact ⟨Try.func108, by kernel_rfl, by kernel_rfl⟩
  · exact ⟨Try.func32, by kernel_rfl, by kernel_rfl⟩
  · exact ⟨Try.func101, by kernel_rfl, by kernel_rfl⟩
  · exact ⟨Try.func193, by kernel_rfl, by kernel_rfl⟩
  · exact ⟨Try.func109, by kernel_rfl, by kernel_rfl⟩
  · exact ⟨Try.func33, by kernel_rfl, by kernel_rfl⟩
  · exact ⟨Try.func194, by kernel_rfl, by kernel_rfl⟩
  · exact ⟨Try.func110, by kernel_rfl, by kernel_rfl⟩
  · exact ⟨Try.func34, by kernel_rfl, by kernel_rfl⟩
  · exact ⟨Try.func35, by kernel_rfl, by kernel_rfl⟩
  · exact ⟨Try.func142, by kernel_rfl, by kernel_rfl⟩
  · exact ⟨Try.func141, by kernel_rfl, by kernel_rfl⟩
  · exact ⟨Try.func143, by kernel_rfl, by kernel_rfl⟩
  · exact ⟨Try.func54, by kernel_rfl, by kernel_rfl⟩
  · exact ⟨Try.func195, by kernel_rfl, by kernel_rfl⟩
  · exact ⟨Try.func111, by kernel_rfl, by kernel_rfl⟩
  · exact ⟨Try.func112, by kernel_rfl, by kernel_rfl⟩
  · exact ⟨Try.func113, by kernel_rfl, by kernel_rfl⟩
  · exact ⟨Try.func238, by kernel_rfl, by kernel_rfl⟩
  · exact ⟨Try.func196, by kernel_rfl, by kernel_rfl⟩
  · exact ⟨Try.func114, by kernel_rfl, by kernel_rfl⟩
  · exact ⟨Try.func36, by kernel_rfl, by kernel_rfl⟩
  · exact ⟨Try.func30, by kernel_rfl, by kernel_rfl⟩
  · exact ⟨Try.func37, by kernel_rfl, by kernel_rfl⟩
  · exact ⟨Try.func157, by kernel_rfl, by kernel_rfl⟩
  · exact ⟨Try.func197, by kernel_rfl, by kernel_rfl⟩
  · exact ⟨Try.func198, by kernel_rfl, by kernel_rfl⟩
  · exact ⟨Try.func276, by kernel_rfl, by kernel_rfl⟩
  · exact ⟨Try.func199, by kernel_rfl, by kernel_rfl⟩
  · exact ⟨Try.func201, by kernel_rfl, by kernel_rfl⟩
  · exact ⟨Try.func200, by kernel_rfl, by kernel_rfl⟩
  · exact ⟨Try.func115, by kernel_rfl, by kernel_rfl⟩
  · exact ⟨Try.func277, by kernel_rfl, by kernel_rfl⟩
  · exact ⟨Try.func202, by kernel_rfl, by kernel_rfl⟩
  · exact ⟨Try.func204, by kernel_rfl, by kernel_rfl⟩
  · exact ⟨Try.func203, by kernel_rfl, by kernel_rfl⟩
  · exact ⟨Try.func116, by kernel_rfl, by kernel_rfl⟩
  · exact ⟨Try.func117, by kernel_rfl, by kernel_rfl⟩
  · exact ⟨Try.func153, by kernel_rfl, by kernel_rfl⟩
  · exact ⟨Try.func278, by kernel_rfl, by kernel_rfl⟩
  · exact ⟨Try.func207, by kernel_rfl, by kernel_rfl⟩
  · exact ⟨Try.func118, by kernel_rfl, by kernel_rfl⟩
  · exact ⟨Try.func38, by kernel_rfl, by kernel_rfl⟩
  · exact ⟨Try.func119, by kernel_rfl, by kernel_rfl⟩
  · exact ⟨Try.func39, by kernel_rfl, by kernel_rfl⟩
  · exact ⟨Try.func40, by kernel_rfl, by kernel_rfl⟩
  · exact ⟨Try.func5, by kernel_rfl, by kernel_rfl⟩

noncomputable def ext : List (Nat × (List V → Fo → Option (V × Fo))) := [(205, extCloneN ⟨91, 4, 3, 9, 1⟩ ⟨(Go.TypeDesc.struct #[{ name := "Erases", type := 2, offset := 0, embedded := Bool.false, tag := "", pkgPath := "", byteOffset := 0 }, { name := "Next", type := 2, offset := 1, embedded := Bool.false, tag := "", pkgPath := "", byteOffset := 8 }, { name := "Bad", type := 4, offset := 2, embedded := Bool.false, tag := "", pkgPath := "", byteOffset := 16 }, { name := "Pages", type := 89, offset := 3, embedded := Bool.false, tag := "", pkgPath := "", byteOffset := 24 }]), 4, 48, (.agg #[(.int .i64 0), (.int .i64 0), (.bool false), (.slice none 0 0)])⟩),
  (206, extClone 9 ⟨Go.TypeDesc.string, 1, 16, (.string ⟨#[]⟩)⟩)]

theorem ext_ok : ∀ p ∈ ext, ExtOK Try.prog p.1 p.2 := by
  intro p hp
  simp only [ext, List.mem_cons, List.not_mem_nil, or_false] at hp
  rcases hp with rfl | rfl
  · exact ext_cloneN (s := 48) (b := 4) (clone_lays (is := ⟨(Go.TypeDesc.slice 91), 1, 24, (.slice none 0 0)⟩) (ib := ⟨Go.TypeDesc.bool, 1, 1, (.bool false)⟩) (by kernel_rfl) ⟨_, by kernel_rfl, Try.func205⟩ (look_all tys_ok 48 _ rfl) (look_all tys_ok 4 _ rfl) rfl rfl rfl rfl rfl rfl) ⟨Try.f205, Try.func205, by kernel_rfl, by kernel_rfl⟩ (look_all tys_ok 91 _ rfl) rfl
  · exact ext_clone (s := 89) (b := 4) (clone_lays (is := ⟨(Go.TypeDesc.slice 9), 1, 24, (.slice none 0 0)⟩) (ib := ⟨Go.TypeDesc.bool, 1, 1, (.bool false)⟩) (by kernel_rfl) ⟨_, by kernel_rfl, Try.func206⟩ (look_all tys_ok 89 _ rfl) (look_all tys_ok 4 _ rfl) rfl rfl rfl rfl rfl rfl) ⟨Try.f206, Try.func206, by kernel_rfl, by kernel_rfl⟩ (look_all tys_ok 9 _ rfl) rfl

noncomputable def eqs : List (Nat × List (Nat × Nat)) := []

theorem eqs_ok : ∀ p ∈ eqs, Try.prog.stoodInHeld p.1 = false ∧ Try.prog.eqGuardType Try.prog.depth p.1 = false ∧ (∃ fs, Try.prog.underlying p.1 = some (.struct fs) ∧ eqFits Try.prog fs.toList p.2 = true) := by
  intro p hp
  exact absurd hp List.not_mem_nil

noncomputable def E : Env := { tys := tys, fns := fns, own := [29, 30, 37, 38, 101, 105, 106, 113, 114, 117, 118, 153, 191, 193, 238, 274], keep := [(273, [(5, [0, 1, 5])]), (104, [(5, [0, 1, 5])]), (274, [(3, [0, 3, 4])]), (106, [(3, [0, 3, 4])]), (275, [(4, [0, 1, 5])]), (108, [(4, [0, 1, 5])]), (101, [(4, [0, 3])]), (193, [(2, [0, 1, 5])]), (109, [(2, [0, 1, 5])]), (194, [(2, [0, 1, 5])]), (110, [(2, [0, 1, 5])]), (143, [(4, [1, 2, 5])]), (54, [(4, [1, 3])]), (111, [(4, [1, 2, 5])]), (112, [(2, [0, 3])]), (113, [(4, [1, 2, 3, 4])]), (114, [(6, [2, 3, 4, 5]), (12, [2, 3, 4, 6])]), (36, [(7, [1, 4, 6, 7])]), (37, [(3, [0, 3, 4])]), (276, [(2, [0, 1, 7, 8])]), (201, [(4, [3, 28, 29, 30])]), (277, [(2, [0, 1, 7, 8])]), (117, [(3, [1, 2, 10, 11])]), (118, [(6, [0, 3, 25, 26]), (13, [0, 3, 47, 48])]), (38, [(5, [4, 6, 23, 24, 25])]), (39, [(4, [0, 1, 5])]), (40, [(2, [0, 1, 5])])], handN := [33, 36, 38, 40, 109, 114, 196, 199, 202, 205, 206, 276, 277], scal := [5, 27, 32, 34, 35, 39, 54, 104, 107, 108, 110, 111, 112, 113, 115, 116, 117, 119, 141, 142, 143, 157, 190, 192, 194, 195, 197, 198, 201, 204, 273, 275, 278, 1000078, 4000091, 5000078, 2000043, 2000050, 2000069, 2000071, 2000083, 2000091, 2000117, 2000121, 2000203, 2000226, 2000240, 2000267, 2000278], pur := [], takeN := [], ext := ext, eqs := eqs }

theorem ok : EnvOK E Try.prog := ⟨look_all tys_ok, look_all fns_ok, by kernel_rfl, look_all (l := tys) (Q := fun _ (i : TI) => i.zero.cells.size = i.size) (by
  intro p hp
  simp only [tys, List.mem_cons, List.not_mem_nil, or_false] at hp
  rcases hp with rfl | rfl | rfl | rfl | rfl | rfl | rfl | rfl | rfl | rfl | rfl | rfl | rfl | rfl | rfl | rfl | rfl | rfl | rfl | rfl | rfl | rfl | rfl | rfl | rfl | rfl | rfl <;> rfl), look_all ext_ok, look_all (l := eqs) (Q := fun t l => Try.prog.stoodInHeld t = false ∧ Try.prog.eqGuardType Try.prog.depth t = false ∧ (∃ fs, Try.prog.underlying t = some (.struct fs) ∧ eqFits Try.prog fs.toList l = true)) eqs_ok⟩

end Go.Proofs.Ytjnhclnnobejgaa.T02

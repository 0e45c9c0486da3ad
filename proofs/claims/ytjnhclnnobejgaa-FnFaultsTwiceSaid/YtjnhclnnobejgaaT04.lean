/- The engine's tables for laws.FnFaultsTwice, and that they are the program's own; conditions: none. -/

import Derived.Test.YtjnhclnnobejgaaEsi
import Derived.Test.YtjnhclnnobejgaaChecked
import Derived.KernelRfl
namespace Go.Proofs.Ytjnhclnnobejgaa.T04
open Go.Proofs.YtjnhclnnobejgaaE

noncomputable def tys : List (Nat × TI) := [(2, ⟨(Go.TypeDesc.int Go.IntKind.i64), 1, 8, (.int .i64 0)⟩),
  (3, ⟨(Go.TypeDesc.int Go.IntKind.i64), 1, 8, (.int .i64 0)⟩),
  (4, ⟨Go.TypeDesc.bool, 1, 1, (.bool false)⟩),
  (5, ⟨(Go.TypeDesc.int Go.IntKind.u8), 1, 1, (.int .u8 0)⟩),
  (9, ⟨Go.TypeDesc.string, 1, 16, (.string ⟨#[]⟩)⟩),
  (47, ⟨(Go.TypeDesc.struct #[{ name := "Dies", type := 2, offset := 0, embedded := Bool.false, tag := "", pkgPath := "", byteOffset := 0 }, { name := "Blocks", type := 2, offset := 1, embedded := Bool.false, tag := "", pkgPath := "", byteOffset := 8 }, { name := "Pages", type := 2, offset := 2, embedded := Bool.false, tag := "", pkgPath := "", byteOffset := 16 }]), 3, 24, (.agg #[(.int .i64 0), (.int .i64 0), (.int .i64 0)])⟩),
  (48, ⟨(Go.TypeDesc.slice 91), 1, 24, (.slice none 0 0)⟩),
  (50, ⟨(Go.TypeDesc.struct #[{ name := "Geo", type := 47, offset := 0, embedded := Bool.false, tag := "", pkgPath := "", byteOffset := 0 }, { name := "Blocks", type := 48, offset := 3, embedded := Bool.false, tag := "", pkgPath := "", byteOffset := 24 }, { name := "Fuse", type := 2, offset := 4, embedded := Bool.false, tag := "", pkgPath := "", byteOffset := 48 }, { name := "Keep", type := 2, offset := 5, embedded := Bool.false, tag := "", pkgPath := "", byteOffset := 56 }, { name := "Off", type := 4, offset := 6, embedded := Bool.false, tag := "", pkgPath := "", byteOffset := 64 }, { name := "Ops", type := 2, offset := 7, embedded := Bool.false, tag := "", pkgPath := "", byteOffset := 72 }]), 8, 80, (.agg #[(.int .i64 0), (.int .i64 0), (.int .i64 0), (.slice none 0 0), (.int .i64 0), (.int .i64 0), (.bool false), (.int .i64 0)])⟩),
  (51, ⟨(Go.TypeDesc.tuple #[50, 2]), 1, 0, (.tuple #[(.agg #[(.int .i64 0), (.int .i64 0), (.int .i64 0), (.slice none 0 0), (.int .i64 0), (.int .i64 0), (.bool false), (.int .i64 0)]), (.int .i64 0)])⟩),
  (54, ⟨(Go.TypeDesc.struct #[{ name := "Kind", type := 2, offset := 0, embedded := Bool.false, tag := "", pkgPath := "", byteOffset := 0 }, { name := "Block", type := 2, offset := 1, embedded := Bool.false, tag := "", pkgPath := "", byteOffset := 8 }, { name := "Page", type := 2, offset := 2, embedded := Bool.false, tag := "", pkgPath := "", byteOffset := 16 }, { name := "Bit", type := 2, offset := 3, embedded := Bool.false, tag := "", pkgPath := "", byteOffset := 24 }]), 4, 32, (.agg #[(.int .i64 0), (.int .i64 0), (.int .i64 0), (.int .i64 0)])⟩),
  (62, ⟨(Go.TypeDesc.slice 54), 1, 24, (.slice none 0 0)⟩),
  (67, ⟨(Go.TypeDesc.slice 2), 1, 24, (.slice none 0 0)⟩),
  (78, ⟨(Go.TypeDesc.slice 5), 1, 24, (.slice none 0 0)⟩),
  (79, ⟨(Go.TypeDesc.tuple #[50, 62]), 1, 0, (.tuple #[(.agg #[(.int .i64 0), (.int .i64 0), (.int .i64 0), (.slice none 0 0), (.int .i64 0), (.int .i64 0), (.bool false), (.int .i64 0)]), (.slice none 0 0)])⟩),
  (89, ⟨(Go.TypeDesc.slice 9), 1, 24, (.slice none 0 0)⟩),
  (91, ⟨(Go.TypeDesc.struct #[{ name := "Erases", type := 2, offset := 0, embedded := Bool.false, tag := "", pkgPath := "", byteOffset := 0 }, { name := "Next", type := 2, offset := 1, embedded := Bool.false, tag := "", pkgPath := "", byteOffset := 8 }, { name := "Bad", type := 4, offset := 2, embedded := Bool.false, tag := "", pkgPath := "", byteOffset := 16 }, { name := "Pages", type := 89, offset := 3, embedded := Bool.false, tag := "", pkgPath := "", byteOffset := 24 }]), 4, 48, (.agg #[(.int .i64 0), (.int .i64 0), (.bool false), (.slice none 0 0)])⟩),
  (96, ⟨(Go.TypeDesc.tuple #[9, 2]), 1, 0, (.tuple #[(.string ⟨#[]⟩), (.int .i64 0)])⟩),
  (111, ⟨(Go.TypeDesc.int Go.IntKind.u64), 1, 8, (.int .u64 0)⟩),
  (170, ⟨(Go.TypeDesc.pointer 240), 1, 8, (.pointer none)⟩),
  (175, ⟨(Go.TypeDesc.func #[91, 91] #[4] Bool.false), 1, 8, .nilFunc⟩),
  (197, ⟨(Go.TypeDesc.int Go.IntKind.u64), 1, 8, (.int .u64 0)⟩),
  (207, ⟨(Go.TypeDesc.pointer 50), 1, 8, (.pointer none)⟩),
  (233, ⟨(Go.TypeDesc.func #[91] #[4] Bool.false), 1, 8, .nilFunc⟩),
  (235, ⟨(Go.TypeDesc.func #[54] #[4] Bool.false), 1, 8, .nilFunc⟩),
  (240, ⟨(Go.TypeDesc.struct #[{ name := "code", type := 78, offset := 0, embedded := Bool.false, tag := "", pkgPath := "loop.example/g00905/spec", byteOffset := 0 }, { name := "at", type := 3, offset := 1, embedded := Bool.false, tag := "", pkgPath := "loop.example/g00905/spec", byteOffset := 24 }, { name := "seed", type := 111, offset := 2, embedded := Bool.false, tag := "", pkgPath := "loop.example/g00905/spec", byteOffset := 32 }]), 3, 40, (.agg #[(.slice none 0 0), (.int .i64 0), (.int .u64 0)])⟩),
  (260, ⟨(Go.TypeDesc.pointer 91), 1, 8, (.pointer none)⟩),
  (294, ⟨(Go.TypeDesc.pointer 9), 1, 8, (.pointer none)⟩),
  (323, ⟨(Go.TypeDesc.tuple #[2, 2]), 1, 0, (.tuple #[(.int .i64 0), (.int .i64 0)])⟩)]

theorem tys_ok : ∀ p ∈ tys, ∃ ti, Try.prog.info? p.1 = some ti ∧ Try.prog.underlying p.1 = some p.2.desc ∧ ti.size = p.2.size ∧ ti.bytes = p.2.bytes ∧ ti.zero = some p.2.zero := by
  intro p hp
  simp only [tys, List.mem_cons, List.not_mem_nil, or_false] at hp
  rcases hp with rfl | rfl | rfl | rfl | rfl | rfl | rfl | rfl | rfl | rfl | rfl | rfl | rfl | rfl | rfl | rfl | rfl | rfl | rfl | rfl | rfl | rfl | rfl | rfl | rfl | rfl | rfl | rfl
  · exact info_of (by kernel_rfl) Try.underlying2
  · exact info_of (by kernel_rfl) Try.underlying3
  · exact info_of (by kernel_rfl) Try.underlying4
  · exact info_of (by kernel_rfl) Try.underlying5
  · exact info_of (by kernel_rfl) Try.underlying9
  · exact info_of (by kernel_rfl) Try.underlying47
  · exact info_of (by kernel_rfl) Try.underlying48
  · exact info_of (by kernel_rfl) Try.underlying50
  · exact info_of (by kernel_rfl) Try.underlying51
  · exact info_of (by kernel_rfl) Try.underlying54
  · exact info_of (by kernel_rfl) Try.underlying62
  · exact info_of (by kernel_rfl) Try.underlying67
  · exact info_of (by kernel_rfl) Try.underlying78
  · exact info_of (by kernel_rfl) Try.underlying79
  · exact info_of (by kernel_rfl) Try.underlying89
  · exact info_of (by kernel_rfl) Try.underlying91
  · exact info_of (by kernel_rfl) Try.underlying96
  · exact info_of (by kernel_rfl) Try.underlying111
  · exact info_of (by kernel_rfl) Try.underlying170
  · exact info_of (by kernel_rfl) Try.underlying175
  · exact info_of (by kernel_rfl) Try.underlying197
  · exact info_of (by kernel_rfl) Try.underlying207
  · exact info_of (by kernel_rfl) Try.underlying233
  · exact info_of (by kernel_rfl) Try.underlying235
  · exact info_of (by kernel_rfl) Try.underlying240
  · exact info_of (by kernel_rfl) Try.underlying260
  · exact info_of (by kernel_rfl) Try.underlying294
  · exact info_of (by kernel_rfl) Try.underlying323

noncomputable def fns : List (Nat × Func) := [(157, Try.f157), (197, Try.f197), (198, Try.f198), (276, Try.f276), (199, Try.f199), (201, Try.f201), (200, Try.f200), (115, Try.f115), (277, Try.f277), (202, Try.f202), (204, Try.f204), (203, Try.f203), (116, Try.f116), (117, Try.f117), (153, Try.f153), (278, Try.f278), (207, Try.f207), (118, Try.f118), (38, Try.f38), (31, Try.f31), (142, Try.f142), (141, Try.f141), (143, Try.f143), (54, Try.f54), (195, Try.f195), (111, Try.f111), (112, Try.f112), (113, Try.f113), (238, Try.f238), (196, Try.f196), (114, Try.f114), (36, Try.f36), (129, Try.f129), (159, Try.f159), (71, Try.f71), (223, Try.f223), (137, Try.f137), (134, Try.f134), (145, Try.f145), (282, Try.f282), (279, Try.f279), (281, Try.f281), (210, Try.f210), (239, Try.f239), (257, Try.f257), (280, Try.f280), (209, Try.f209), (283, Try.f283), (212, Try.f212), (312, Try.f312), (326, Try.f326), (313, Try.f313), (292, Try.f292), (314, Try.f314), (330, Try.f330), (331, Try.f331), (327, Try.f327), (315, Try.f315), (293, Try.f293), (237, Try.f237), (213, Try.f213), (214, Try.f214), (130, Try.f130), (284, Try.f284), (215, Try.f215), (131, Try.f131), (48, Try.f48), (132, Try.f132), (216, Try.f216), (133, Try.f133), (49, Try.f49), (7, Try.f7)]

theorem fns_ok : ∀ p ∈ fns, Try.prog.funcs[p.1]? = some p.2 ∧ (p.2.name == "runtime.NumGoroutine") = false ∧ drawsF [7, 49, 54, 111, 112, 113, 115, 116, 117, 133, 141, 142, 143, 157, 159, 195, 197, 198, 201, 204, 213, 216, 237, 278, 279, 282, 292, 293, 312, 313, 314, 315, 326, 327, 330, 331, 1000078, 4000091, 6000048, 5000078, 2000043, 2000050, 2000069, 2000071, 2000083, 2000091, 2000117, 2000121, 2000203, 2000226, 2000240, 2000267, 2000278, 3000009] [36, 48] p.2 = true := by
  intro p hp
  simp only [fns, List.mem_cons, List.not_mem_nil, or_false] at hp
  rcases hp with rfl | rfl | rfl | rfl | rfl | rfl | rfl | rfl | rfl | rfl | rfl | rfl | rfl | rfl | rfl | rfl | rfl | rfl | rfl | rfl | rfl | rfl | rfl | rfl | rfl | rfl | rfl | rfl | rfl | rfl | rfl | rfl | rfl | rfl | rfl | rfl | rfl | rfl | rfl | rfl | rfl | rfl | rfl | rfl | rfl | rfl | rfl | rfl | rfl | rfl | rfl | rfl | rfl | rfl | rfl | rfl | rfl | rfl | rfl | rfl | rfl | rfl | rfl | rfl | rfl | rfl | rfl | rfl | rfl | rfl | rfl | rfl
  · exact ⟨Try.func157, by kernel_rfl, by kernel_rfl⟩
  · exact ⟨Try.func197, by kernel_rfl, by kernel_rfl⟩
  · exact ⟨Try.func198, by kernel_rfl, by kernel_rfl⟩
  · exact ⟨Try.func276, by kernel_rfl, by kernel_rfl⟩
  · exact ⟨Try.func199, by kernel_rfl, by kernel_rfl⟩
  · exact ⟨Try.func201, by kernel_rfl, by kernel_rfl⟩
  · exact ⟨Try.func200, by kernel_rfl, by kernel_rfl⟩
  · exact ⟨Try.func115, by kernel_rfl, by kernel_rfl⟩
  · exact ⟨Try.func277, by kernel_rfl, by kernel_rfl⟩
  · exact ⟨Try.func202, by kernel_rfl, by kernel_rfl⟩
  · exact ⟨Try.func204, by kernel_rfl, by kernel_rfl⟩
  · exact ⟨Try.func203, by kernel_rfl, by kernel_rfl⟩
  · exact ⟨Try.func116, by kernel_rfl, by kernel_rfl⟩
  · exact ⟨Try.func117, by kernel_rfl, by kernel_rfl⟩
  · exact ⟨Try.func153, by kernel_rfl, by kernel_rfl⟩
  · exact ⟨Try.func278, by kernel_rfl, by kernel_rfl⟩
  · exact ⟨Try.func207, by kernel_rfl, by kernel_rfl⟩
  · exact ⟨Try.func118, by kernel_rfl, by kernel_rfl⟩
  · exact ⟨Try.func38, by kernel_rfl, by kernel_rfl⟩
  · exact ⟨Try.func31, by kernel_rfl, by kernel_rfl⟩
  · exact ⟨Try.func142, by kernel_rfl, by kernel_rfl⟩
  · exact ⟨Try.func141, by kernel_rfl, by kernel_rfl⟩
  · exact ⟨Try.func143, by kernel_rfl, by kernel_rfl⟩
  · exact ⟨Try.func54, by kernel_rfl, by kernel_rfl⟩
  · exact ⟨Try.func195, by kernel_rfl, by kernel_rfl⟩
  · exact ⟨Try.func111, by kernel_rfl, by kernel_rfl⟩
  · exact ⟨Try.func112, by kernel_rfl, by kernel_rfl⟩
  · exact ⟨Try.func113, by kernel_rfl, by kernel_rfl⟩
  · exact ⟨Try.func238, by kernel_rfl, by kernel_rfl⟩
  · exact ⟨Try.func196, by kernel_rfl, by kernel_rfl⟩
  · exact ⟨Try.func114, by kernel_rfl, by kernel_rfl⟩
  · exact ⟨Try.func36, by kernel_rfl, by kernel_rfl⟩
  · exact ⟨Try.func129, by kernel_rfl, by kernel_rfl⟩
  · exact ⟨Try.func159, by kernel_rfl, by kernel_rfl⟩
  · exact ⟨Try.func71, by kernel_rfl, by kernel_rfl⟩
  · exact ⟨Try.func223, by kernel_rfl, by kernel_rfl⟩
  · exact ⟨Try.func137, by kernel_rfl, by kernel_rfl⟩
  · exact ⟨Try.func134, by kernel_rfl, by kernel_rfl⟩
  · exact ⟨Try.func145, by kernel_rfl, by kernel_rfl⟩
  · exact ⟨Try.func282, by kernel_rfl, by kernel_rfl⟩
  · exact ⟨Try.func279, by kernel_rfl, by kernel_rfl⟩
  · exact ⟨Try.func281, by kernel_rfl, by kernel_rfl⟩
  · exact ⟨Try.func210, by kernel_rfl, by kernel_rfl⟩
  · exact ⟨Try.func239, by kernel_rfl, by kernel_rfl⟩
  · exact ⟨Try.func257, by kernel_rfl, by kernel_rfl⟩
  · exact ⟨Try.func280, by kernel_rfl, by kernel_rfl⟩
  · exact ⟨Try.func209, by kernel_rfl, by kernel_rfl⟩
  · exact ⟨Try.func283, by kernel_rfl, by kernel_rfl⟩
  · exact ⟨Try.func212, by kernel_rfl, by kernel_rfl⟩
  · exact ⟨Try.func312, by kernel_rfl, by kernel_rfl⟩
  · exact ⟨Try.func326, by kernel_rfl, by kernel_rfl⟩
  · exact ⟨Try.func313, by kernel_rfl, by kernel_rfl⟩
  · exact ⟨Try.func292, by kernel_rfl, by kernel_rfl⟩
  · exact ⟨Try.func314, by kernel_rfl, by kernel_rfl⟩
  · exact ⟨Try.func330, by kernel_rfl, by kernel_rfl⟩
  · exact ⟨Try.func331, by kernel_rfl, by kernel_rfl⟩
  · exact ⟨Try.func327, by kernel_rfl, by kernel_rfl⟩
  · exact ⟨Try.func315, by kernel_rfl, by kernel_rfl⟩
  · exact ⟨Try.func293, by kernel_rfl, by kernel_rfl⟩
  · exact ⟨Try.func237, by kernel_rfl, by kernel_rfl⟩
  · exact ⟨Try.func213, by kernel_rfl, by kernel_rfl⟩
  · exact ⟨Try.func214, by kernel_rfl, by kernel_rfl⟩
  · exact ⟨Try.func130, by kernel_rfl, by kernel_rfl⟩
  · exact ⟨Try.func284, by kernel_rfl, by kernel_rfl⟩
  · exact ⟨Try.func215, by kernel_rfl, by kernel_rfl⟩
  · exact ⟨Try.func131, by kernel_rfl, by kernel_rfl⟩
  · exact ⟨Try.func48, by kernel_rfl, by kernel_rfl⟩
  · exact ⟨Try.func132, by kernel_rfl, by kernel_rfl⟩
  · exact ⟨Try.func216, by kernel_rfl, by kernel_rfl⟩
  · exact ⟨Try.func133, by kernel_rfl, by kernel_rfl⟩
  · exact ⟨Try.func49, by kernel_rfl, by kernel_rfl⟩
  · exact ⟨Try.func7, by kernel_rfl, by kernel_rfl⟩

noncomputable def ext : List (Nat × (List V → Fo → Option (V × Fo))) := [(205, extCloneN ⟨91, 4, 3, 9, 1⟩ ⟨(Go.TypeDesc.struct #[{ name := "Erases", type := 2, offset := 0, embedded := Bool.false, tag := "", pkgPath := "", byteOffset := 0 }, { name := "Next", type := 2, offset := 1, embedded := Bool.false, tag := "", pkgPath := "", byteOffset := 8 }, { name := "Bad", type := 4, offset := 2, embedded := Bool.false, tag := "", pkgPath := "", byteOffset := 16 }, { name := "Pages", type := 89, offset := 3, embedded := Bool.false, tag := "", pkgPath := "", byteOffset := 24 }]), 4, 48, (.agg #[(.int .i64 0), (.int .i64 0), (.bool false), (.slice none 0 0)])⟩),
  (206, extClone 9 ⟨Go.TypeDesc.string, 1, 16, (.string ⟨#[]⟩)⟩)]

theorem ext_ok : ∀ p ∈ ext, ExtOK Try.prog p.1 p.2 := by
  intro p hp
  simp only [ext, List.mem_cons, List.not_mem_nil, or_false] at hp
  rcases hp with rfl | rfl
  · exact ext_cloneN (s := 48) (b := 4) (clone_lays (is := ⟨(Go.TypeDesc.slice 91), 1, 24, (.slice none 0 0)⟩) (ib := ⟨Go.TypeDesc.bool, 1, 1, (.bool false)⟩) (by kernel_rfl) ⟨_, by kernel_rfl, Try.func205⟩ (look_all tys_ok 48 _ rfl) (look_all tys_ok 4 _ rfl) rfl rfl rfl rfl rfl rfl) ⟨Try.f205, Try.func205, by kernel_rfl, by kernel_rfl⟩ (look_all tys_ok 91 _ rfl) rfl
  · exact ext_clone (s := 89) (b := 4) (clone_lays (is := ⟨(Go.TypeDesc.slice 9), 1, 24, (.slice none 0 0)⟩) (ib := ⟨Go.TypeDesc.bool, 1, 1, (.bool false)⟩) (by kernel_rfl) ⟨_, by kernel_rfl, Try.func206⟩ (look_all tys_ok 89 _ rfl) (look_all tys_ok 4 _ rfl) rfl rfl rfl rfl rfl rfl) ⟨Try.f206, Try.func206, by kernel_rfl, by kernel_rfl⟩ (look_all tys_ok 9 _ rfl) rfl

noncomputable def eqs : List (Nat × List (Nat × Nat)) := [(47, [(0, 0), (1, 0), (2, 0)])]

theorem eqs_ok : ∀ p ∈ eqs, Try.prog.stoodInHeld p.1 = false ∧ Try.prog.eqGuardType Try.prog.depth p.1 = false ∧ (∃ fs, Try.prog.underlying p.1 = some (.struct fs) ∧ eqFits Try.prog fs.toList p.2 = true) := by
  intro p hp
  simp only [eqs, List.mem_cons, List.not_mem_nil, or_false] at hp
  rcases hp with rfl
  · exact ⟨by kernel_rfl, by kernel_rfl, _, Try.underlying47, by kernel_rfl⟩

noncomputable def E : Env := { tys := tys, fns := fns, own := [71, 113, 114, 117, 118, 130, 131, 145, 153, 159, 209, 210, 212, 238, 239, 280, 281, 283], keep := [(276, [(2, [0, 1, 7, 8])]), (201, [(4, [3, 28, 29, 30])]), (277, [(2, [0, 1, 7, 8])]), (117, [(3, [1, 2, 10, 11])]), (118, [(6, [0, 3, 25, 26]), (13, [0, 3, 47, 48])]), (38, [(5, [4, 6, 23, 24, 25])]), (143, [(4, [1, 2, 5])]), (54, [(4, [1, 3])]), (111, [(4, [1, 2, 5])]), (112, [(2, [0, 3])]), (113, [(4, [1, 2, 3, 4])]), (114, [(6, [2, 3, 4, 5]), (12, [2, 3, 4, 6])]), (36, [(7, [1, 4, 6, 7])]), (159, [(4, [1, 2, 3, 4])]), (281, [(3, [0, 1, 5, 6])]), (283, [(3, [1, 2, 3, 4])]), (312, [(3, [0, 1, 5, 6])]), (313, [(3, [0, 1, 5, 6]), (7, [0, 1, 5, 6, 7, 8])]), (331, [(5, [0, 3, 4])]), (327, [(3, [0, 1, 6, 7, 8])]), (293, [(5, [0, 4, 5])]), (214, [(3, [0, 1, 5, 6])]), (130, [(3, [0, 2, 3, 5])]), (131, [(4, [0, 3, 5, 6, 7]), (11, [0, 5])]), (132, [(4, [1, 2, 15, 16, 17])]), (216, [(4, [0, 1, 12, 13])]), (7, [(13, [3, 4, 5, 9, 10, 11])])], handN := [71, 114, 132, 145, 196, 199, 202, 205, 206, 209, 276, 277], scal := [7, 49, 54, 111, 112, 113, 115, 116, 117, 133, 141, 142, 143, 157, 159, 195, 197, 198, 201, 204, 213, 216, 237, 278, 279, 282, 292, 293, 312, 313, 314, 315, 326, 327, 330, 331, 1000078, 4000091, 6000048, 5000078, 2000043, 2000050, 2000069, 2000071, 2000083, 2000091, 2000117, 2000121, 2000203, 2000226, 2000240, 2000267, 2000278, 3000009], pur := [36, 48], takeN := [], ext := ext, eqs := eqs }

theorem ok : EnvOK E Try.prog := ⟨look_all tys_ok, look_all fns_ok, by kernel_rfl, look_all (l := tys) (Q := fun _ (i : TI) => i.zero.cells.size = i.size) (by
  intro p hp
  simp only [tys, List.mem_cons, List.not_mem_nil, or_false] at hp
  rcases hp with rfl | rfl | rfl | rfl | rfl | rfl | rfl | rfl | rfl | rfl | rfl | rfl | rfl | rfl | rfl | rfl | rfl | rfl | rfl | rfl | rfl | rfl | rfl | rfl | rfl | rfl | rfl | rfl <;> rfl), look_all ext_ok, look_all (l := eqs) (Q := fun t l => Try.prog.stoodInHeld t = false ∧ Try.prog.eqGuardType Try.prog.depth t = false ∧ (∃ fs, Try.prog.underlying t = some (.struct fs) ∧ eqFits Try.prog fs.toList l = true)) eqs_ok⟩

end Go.Proofs.Ytjnhclnnobejgaa.T04

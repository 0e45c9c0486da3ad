/- The engine's tables for laws.FnMarkedBlocks, and that they are the program's own; conditions: none. -/

import Derived.Test.YtjnhclnnobejgaaEsi
import Derived.Test.YtjnhclnnobejgaaChecked
import Derived.KernelRfl
namespace Go.Proofs.Ytjnhclnnobejgaa.T12
open Go.Proofs.YtjnhclnnobejgaaE

noncomputable def tys : List (Nat × TI) := [(2, ⟨(Go.TypeDesc.int Go.IntKind.i64), 1, 8, (.int .i64 0)⟩),
  (3, ⟨(Go.TypeDesc.int Go.IntKind.i64), 1, 8, (.int .i64 0)⟩),
  (4, ⟨Go.TypeDesc.bool, 1, 1, (.bool false)⟩),
  (5, ⟨(Go.TypeDesc.int Go.IntKind.u8), 1, 1, (.int .u8 0)⟩),
  (9, ⟨Go.TypeDesc.string, 1, 16, (.string ⟨#[]⟩)⟩),
  (47, ⟨(Go.TypeDesc.struct #[{ name := "Dies", type := 2, offset := 0, embedded := Bool.false, tag := "", pkgPath := "", byteOffset := 0 }, { name := "Blocks", type := 2, offset := 1, embedded := Bool.false, tag := "", pkgPath := "", byteOffset := 8 }, { name := "Pages", type := 2, offset := 2, embedded := Bool.false, tag := "", pkgPath := "", byteOffset := 16 }]), 3, 24, (.agg #[(.int .i64 0), (.int .i64 0), (.int .i64 0)])⟩),
  (48, ⟨(Go.TypeDesc.slice 91), 1, 24, (.slice none 0 0)⟩),
  (50, ⟨(Go.TypeDesc.struct #[{ name := "Geo", type := 47, offset := 0, embedded := Bool.false, tag := "", pkgPath := "", byteOffset := 0 }, { name := "Blocks", type := 48, offset := 3, embedded := Bool.false, tag := "", pkgPath := "", byteOffset := 24 }, { name := "Fuse", type := 2, offset := 4, embedded := Bool.false, tag := "", pkgPath := "", byteOffset := 48 }, { name := "Keep", type := 2, offset := 5, embedded := Bool.false, tag := "", pkgPath := "", byteOffset := 56 }, { name := "Off", type := 4, offset := 6, embedded := Bool.false, tag := "", pkgPath := "", byteOffset := 64 }, { name := "Ops", type := 2, offset := 7, embedded := Bool.false, tag := "", pkgPath := "", byteOffset := 72 }]), 8, 80, (.agg #[(.int .i64 0), (.int .i64 0), (.int .i64 0), (.slice none 0 0), (.int .i64 0), (.int .i64 0), (.bool false), (.int .i64 0)])⟩),
  (51, ⟨(Go.TypeDesc.tuple #[50, 2]), 1, 0, (.tuple #[(.agg #[(.int .i64 0), (.int .i64 0), (.int .i64 0), (.slice none 0 0), (.int .i64 0), (.int .i64 0), (.bool false), (.int .i64 0)]), (.int .i64 0)])⟩),
  (67, ⟨(Go.TypeDesc.slice 2), 1, 24, (.slice none 0 0)⟩),
  (78, ⟨(Go.TypeDesc.slice 5), 1, 24, (.slice none 0 0)⟩),
  (83, ⟨(Go.TypeDesc.struct #[{ name := "Geo", type := 47, offset := 0, embedded := Bool.false, tag := "", pkgPath := "", byteOffset := 0 }, { name := "Spare", type := 2, offset := 3, embedded := Bool.false, tag := "", pkgPath := "", byteOffset := 24 }, { name := "Bad", type := 67, offset := 4, embedded := Bool.false, tag := "", pkgPath := "", byteOffset := 32 }, { name := "Remap", type := 67, offset := 5, embedded := Bool.false, tag := "", pkgPath := "", byteOffset := 56 }]), 6, 80, (.agg #[(.int .i64 0), (.int .i64 0), (.int .i64 0), (.int .i64 0), (.slice none 0 0), (.slice none 0 0)])⟩),
  (84, ⟨(Go.TypeDesc.tuple #[50, 83]), 1, 0, (.tuple #[(.agg #[(.int .i64 0), (.int .i64 0), (.int .i64 0), (.slice none 0 0), (.int .i64 0), (.int .i64 0), (.bool false), (.int .i64 0)]), (.agg #[(.int .i64 0), (.int .i64 0), (.int .i64 0), (.int .i64 0), (.slice none 0 0), (.slice none 0 0)])])⟩),
  (89, ⟨(Go.TypeDesc.slice 9), 1, 24, (.slice none 0 0)⟩),
  (91, ⟨(Go.TypeDesc.struct #[{ name := "Erases", type := 2, offset := 0, embedded := Bool.false, tag := "", pkgPath := "", byteOffset := 0 }, { name := "Next", type := 2, offset := 1, embedded := Bool.false, tag := "", pkgPath := "", byteOffset := 8 }, { name := "Bad", type := 4, offset := 2, embedded := Bool.false, tag := "", pkgPath := "", byteOffset := 16 }, { name := "Pages", type := 89, offset := 3, embedded := Bool.false, tag := "", pkgPath := "", byteOffset := 24 }]), 4, 48, (.agg #[(.int .i64 0), (.int .i64 0), (.bool false), (.slice none 0 0)])⟩),
  (96, ⟨(Go.TypeDesc.tuple #[9, 2]), 1, 0, (.tuple #[(.string ⟨#[]⟩), (.int .i64 0)])⟩),
  (111, ⟨(Go.TypeDesc.int Go.IntKind.u64), 1, 8, (.int .u64 0)⟩),
  (170, ⟨(Go.TypeDesc.pointer 240), 1, 8, (.pointer none)⟩),
  (176, ⟨(Go.TypeDesc.func #[2] #[4] Bool.false), 1, 8, .nilFunc⟩),
  (178, ⟨(Go.TypeDesc.tuple #[83, 2]), 1, 0, (.tuple #[(.agg #[(.int .i64 0), (.int .i64 0), (.int .i64 0), (.int .i64 0), (.slice none 0 0), (.slice none 0 0)]), (.int .i64 0)])⟩),
  (197, ⟨(Go.TypeDesc.int Go.IntKind.u64), 1, 8, (.int .u64 0)⟩),
  (207, ⟨(Go.TypeDesc.pointer 50), 1, 8, (.pointer none)⟩),
  (233, ⟨(Go.TypeDesc.func #[91] #[4] Bool.false), 1, 8, .nilFunc⟩),
  (240, ⟨(Go.TypeDesc.struct #[{ name := "code", type := 78, offset := 0, embedded := Bool.false, tag := "", pkgPath := "loop.example/g00905/spec", byteOffset := 0 }, { name := "at", type := 3, offset := 1, embedded := Bool.false, tag := "", pkgPath := "loop.example/g00905/spec", byteOffset := 24 }, { name := "seed", type := 111, offset := 2, embedded := Bool.false, tag := "", pkgPath := "loop.example/g00905/spec", byteOffset := 32 }]), 3, 40, (.agg #[(.slice none 0 0), (.int .i64 0), (.int .u64 0)])⟩),
  (260, ⟨(Go.TypeDesc.pointer 91), 1, 8, (.pointer none)⟩),
  (323, ⟨(Go.TypeDesc.tuple #[2, 2]), 1, 0, (.tuple #[(.int .i64 0), (.int .i64 0)])⟩)]

theorem tys_ok : ∀ p ∈ tys, ∃ ti, Try.prog.info? p.1 = some ti ∧ Try.prog.underlying p.1 = some p.2.desc ∧ ti.size = p.2.size ∧ ti.bytes = p.2.bytes ∧ ti.zero = some p.2.zero := by
  intro p hp
  simp only [tys, List.mem_cons, List.not_mem_nil, or_false] at hp
  rcases hp with rfl | rfl | rfl | rfl | rfl | rfl | rfl | rfl | rfl | rfl | rfl | rfl | rfl | rfl | rfl | rfl | rfl | rfl | rfl | rfl | rfl | rfl | rfl | rfl | rfl | rfl
  · exact info_of (by kernel_rfl) Try.underlying2
  · exact info_of (by kernel_rfl) Try.underlying3
  · exact info_of (by kernel_rfl) Try.underlying4
  · exact info_of (by kernel_rfl) Try.underlying5
  · exact info_of (by kernel_rfl) Try.underlying9
  · exact info_of (by kernel_rfl) Try.underlying47
  · exact info_of (by kernel_rfl) Try.underlying48
  · exact info_of (by kernel_rfl) Try.underlying50
  · exact info_of (by kernel_rfl) Try.underlying51
  · exact info_of (by kernel_rfl) Try.underlying67
  · exact info_of (by kernel_rfl) Try.underlying78
  · exact info_of (by kernel_rfl) Try.underlying83
  · exact info_of (by kernel_rfl) Try.underlying84
  · exact info_of (by kernel_rfl) Try.underlying89
  · exact info_of (by kernel_rfl) Try.underlying91
  · exact info_of (by kernel_rfl) Try.underlying96
  · exact info_of (by kernel_rfl) Try.underlying111
  · exact info_of (by kernel_rfl) Try.underlying170
  · exact info_of (by kernel_rfl) Try.underlying176
  · exact info_of (by kernel_rfl) Try.underlying178
  · exact info_of (by kernel_rfl) Try.underlying197
  · exact info_of (by kernel_rfl) Try.underlying207
  · exact info_of (by kernel_rfl) Try.underlying233
  · exact info_of (by kernel_rfl) Try.underlying240
  · exact info_of (by kernel_rfl) Try.underlying260
  · exact info_of (by kernel_rfl) Try.underlying323

noncomputable def fns : List (Nat × Func) := [(129, Try.f129), (142, Try.f142), (141, Try.f141), (143, Try.f143), (54, Try.f54), (159, Try.f159), (71, Try.f71), (223, Try.f223), (137, Try.f137), (134, Try.f134), (145, Try.f145), (282, Try.f282), (279, Try.f279), (281, Try.f281), (210, Try.f210), (239, Try.f239), (257, Try.f257), (280, Try.f280), (209, Try.f209), (283, Try.f283), (212, Try.f212), (312, Try.f312), (326, Try.f326), (313, Try.f313), (292, Try.f292), (314, Try.f314), (330, Try.f330), (331, Try.f331), (327, Try.f327), (315, Try.f315), (293, Try.f293), (237, Try.f237), (213, Try.f213), (214, Try.f214), (130, Try.f130), (121, Try.f121), (158, Try.f158), (218, Try.f218), (219, Try.f219), (220, Try.f220), (221, Try.f221), (222, Try.f222), (136, Try.f136), (231, Try.f231), (140, Try.f140), (224, Try.f224), (225, Try.f225), (226, Try.f226), (138, Try.f138), (217, Try.f217), (135, Try.f135), (50, Try.f50), (157, Try.f157), (197, Try.f197), (198, Try.f198), (276, Try.f276), (199, Try.f199), (201, Try.f201), (200, Try.f200), (115, Try.f115), (117, Try.f117), (252, Try.f252), (318, Try.f318), (299, Try.f299), (300, Try.f300), (253, Try.f253), (156, Try.f156), (227, Try.f227), (285, Try.f285), (228, Try.f228), (289, Try.f289), (230, Try.f230), (286, Try.f286), (287, Try.f287), (288, Try.f288), (229, Try.f229), (139, Try.f139), (51, Try.f51), (113, Try.f113), (52, Try.f52), (53, Try.f53), (8, Try.f8)]

theorem fns_ok : ∀ p ∈ fns, Try.prog.funcs[p.1]? = some p.2 ∧ (p.2.name == "runtime.NumGoroutine") = false ∧ drawsF [8, 54, 113, 115, 117, 139, 140, 141, 142, 143, 156, 157, 158, 159, 197, 198, 201, 213, 218, 219, 220, 221, 226, 227, 228, 229, 230, 231, 237, 252, 253, 279, 282, 285, 286, 287, 289, 292, 293, 312, 313, 314, 315, 326, 327, 330, 331, 1000078, 4000091, 6000048, 2000043, 2000050, 2000069, 2000071, 2000083, 2000091, 2000117, 2000121, 2000203, 2000226, 2000240, 2000267, 2000278, 3000009] [50, 52, 53, 288] p.2 = true := by
  intro p hp
  simp only [fns, List.mem_cons, List.not_mem_nil, or_false] at hp
  rcases hp with rfl | rfl | rfl | rfl | rfl | rfl | rfl | rfl | rfl | rfl | rfl | rfl | rfl | rfl | rfl | rfl | rfl | rfl | rfl | rfl | rfl | rfl | rfl | rfl | rfl | rfl | rfl | rfl | rfl | rfl | rfl | rfl | rfl | rfl | rfl | rfl | rfl | rfl | rfl | rfl | rfl | rfl | rfl | rfl | rfl | rfl | rfl | rfl | rfl | rfl | rfl | rfl | rfl | rfl | rfl | rfl | rfl | rfl | rfl | rfl | rfl | rfl | rfl | rfl | rfl | rfl | rfl | rfl | rfl | rfl | rfl | rfl | rfl | rfl | rfl | rfl | rfl | rfl | rfl | rfl | rfl | rfl
  · exact ⟨Try.func129, by kernel_rfl, by kernel_rfl⟩
  · exact ⟨Try.func142, by kernel_rfl, by kernel_rfl⟩
  · exact ⟨Try.func141, by kernel_rfl, by kernel_rfl⟩
  · exact ⟨Try.func143, by kernel_rfl, by kernel_rfl⟩
  · exact ⟨Try.func54, by kernel_rfl, by kernel_rfl⟩
  · exact ⟨Try.func159, by kernel_rfl, by kernel_rfl⟩
  · exact ⟨Try.func71, by kernel_rfl, by kernel_rfl⟩
  · exact ⟨Try.func223, by kernel_rfl, by kernel_rfl⟩
  · exact ⟨Try.func137, by kernel_rfl, by kernel_rfl⟩
  · exact ⟨Try.func134, by kernel_rfl, by kernel_rfl⟩
  · exact ⟨Try.func145, by kernel_rfl, by kernel_rfl⟩
  · exact ⟨Try.func282, by kernel_rfl, by kernel_rfl⟩
  · exact ⟨Try.func279, by kernel_rfl, by kernel_rfl⟩
  · exact ⟨Try.func281, by kernel_rfl, by kernel_rfl⟩
  · exact ⟨Try.func210, by kernel_rfl, by kernel_rfl⟩
  · exact ⟨Try.func239, by kernel_rfl, by kernel_rfl⟩
  · exact ⟨Try.func257, by kernel_rfl, by kernel_rfl⟩
  · exact ⟨Try.func280, by kernel_rfl, by kernel_rfl⟩
  · exact ⟨Try.func209, by kernel_rfl, by kernel_rfl⟩
  · exact ⟨Try.func283, by kernel_rfl, by kernel_rfl⟩
  · exact ⟨Try.func212, by kernel_rfl, by kernel_rfl⟩
  · exact ⟨Try.func312, by kernel_rfl, by kernel_rfl⟩
  · exact ⟨Try.func326, by kernel_rfl, by kernel_rfl⟩
  · exact ⟨Try.func313, by kernel_rfl, by kernel_rfl⟩
  · exact ⟨Try.func292, by kernel_rfl, by kernel_rfl⟩
  · exact ⟨Try.func314, by kernel_rfl, by kernel_rfl⟩
  · exact ⟨Try.func330, by kernel_rfl, by kernel_rfl⟩
  · exact ⟨Try.func331, by kernel_rfl, by kernel_rfl⟩
  · exact ⟨Try.func327, by kernel_rfl, by kernel_rfl⟩
  · exact ⟨Try.func315, by kernel_rfl, by kernel_rfl⟩
  · exact ⟨Try.func293, by kernel_rfl, by kernel_rfl⟩
  · exact ⟨Try.func237, by kernel_rfl, by kernel_rfl⟩
  · exact ⟨Try.func213, by kernel_rfl, by kernel_rfl⟩
  · exact ⟨Try.func214, by kernel_rfl, by kernel_rfl⟩
  · exact ⟨Try.func130, by kernel_rfl, by kernel_rfl⟩
  · exact ⟨Try.func121, by kernel_rfl, by kernel_rfl⟩
  · exact ⟨Try.func158, by kernel_rfl, by kernel_rfl⟩
  · exact ⟨Try.func218, by kernel_rfl, by kernel_rfl⟩
  · exact ⟨Try.func219, by kernel_rfl, by kernel_rfl⟩
  · exact ⟨Try.func220, by kernel_rfl, by kernel_rfl⟩
  · exact ⟨Try.func221, by kernel_rfl, by kernel_rfl⟩
  · exact ⟨Try.func222, by kernel_rfl, by kernel_rfl⟩
  · exact ⟨Try.func136, by kernel_rfl, by kernel_rfl⟩
  · exact ⟨Try.func231, by kernel_rfl, by kernel_rfl⟩
  · exact ⟨Try.func140, by kernel_rfl, by kernel_rfl⟩
  · exact ⟨Try.func224, by kernel_rfl, by kernel_rfl⟩
  · exact ⟨Try.func225, by kernel_rfl, by kernel_rfl⟩
  · exact ⟨Try.func226, by kernel_rfl, by kernel_rfl⟩
  · exact ⟨Try.func138, by kernel_rfl, by kernel_rfl⟩
  · exact ⟨Try.func217, by kernel_rfl, by kernel_rfl⟩
  · exact ⟨Try.func135, by kernel_rfl, by kernel_rfl⟩
  · exact ⟨Try.func50, by kernel_rfl, by kernel_rfl⟩
  · exact ⟨Try.func157, by kernel_rfl, by kernel_rfl⟩
  · exact ⟨Try.func197, by kernel_rfl, by kernel_rfl⟩
  · exact ⟨Try.func198, by kernel_rfl, by kernel_rfl⟩
  · exact ⟨Try.func276, by kernel_rfl, by kernel_rfl⟩
  · exact ⟨Try.func199, by kernel_rfl, by kernel_rfl⟩
  · exact ⟨Try.func201, by kernel_rfl, by kernel_rfl⟩
  · exact ⟨Try.func200, by kernel_rfl, by kernel_rfl⟩
  · exact ⟨Try.func115, by kernel_rfl, by kernel_rfl⟩
  · exact ⟨Try.func117, by kernel_rfl, by kernel_rfl⟩
  · exact ⟨Try.func252, by kernel_rfl, by kernel_rfl⟩
  · exact ⟨Try.func318, by kernel_rfl, by kernel_rfl⟩
  · exact ⟨Try.func299, by kernel_rfl, by kernel_rfl⟩
  · exact ⟨Try.func300, by kernel_rfl, by kernel_rfl⟩
  · exact ⟨Try.func253, by kernel_rfl, by kernel_rfl⟩
  · exact ⟨Try.func156, by kernel_rfl, by kernel_rfl⟩
  · exact ⟨Try.func227, by kernel_rfl, by kernel_rfl⟩
  · exact ⟨Try.func285, by kernel_rfl, by kernel_rfl⟩
  · exact ⟨Try.func228, by kernel_rfl, by kernel_rfl⟩
  · exact ⟨Try.func289, by kernel_rfl, by kernel_rfl⟩
  · exact ⟨Try.func230, by kernel_rfl, by kernel_rfl⟩
  · exact ⟨Try.func286, by kernel_rfl, by kernel_rfl⟩
  · exact ⟨Try.func287, by kernel_rfl, by kernel_rfl⟩
  · exact ⟨Try.func288, by kernel_rfl, by kernel_rfl⟩
  · exact ⟨Try.func229, by kernel_rfl, by kernel_rfl⟩
  · exact ⟨Try.func139, by kernel_rfl, by kernel_rfl⟩
  · exact ⟨Try.func51, by kernel_rfl, by kernel_rfl⟩
  · exact ⟨Try.func113, by kernel_rfl, by kernel_rfl⟩
  · exact ⟨Try.func52, by kernel_rfl, by kernel_rfl⟩
  · exact ⟨Try.func53, by kernel_rfl, by kernel_rfl⟩
  · exact ⟨Try.func8, by kernel_rfl, by kernel_rfl⟩

noncomputable def ext : List (Nat × (List V → Fo → Option (V × Fo))) := [(205, extCloneN ⟨91, 4, 3, 9, 1⟩ ⟨(Go.TypeDesc.struct #[{ name := "Erases", type := 2, offset := 0, embedded := Bool.false, tag := "", pkgPath := "", byteOffset := 0 }, { name := "Next", type := 2, offset := 1, embedded := Bool.false, tag := "", pkgPath := "", byteOffset := 8 }, { name := "Bad", type := 4, offset := 2, embedded := Bool.false, tag := "", pkgPath := "", byteOffset := 16 }, { name := "Pages", type := 89, offset := 3, embedded := Bool.false, tag := "", pkgPath := "", byteOffset := 24 }]), 4, 48, (.agg #[(.int .i64 0), (.int .i64 0), (.bool false), (.slice none 0 0)])⟩),
  (206, extClone 9 ⟨Go.TypeDesc.string, 1, 16, (.string ⟨#[]⟩)⟩)]

theorem ext_ok : ∀ p ∈ ext, ExtOK Try.prog p.1 p.2 := by
  intro p hp
  simp only [ext, List.mem_cons, List.not_mem_nil, or_false] at hp
  rcases hp with rfl | rfl
  · exact ext_cloneN (s := 48) (b := 4) (clone_lays (is := ⟨(Go.TypeDesc.slice 91), 1, 24, (.slice none 0 0)⟩) (ib := ⟨Go.TypeDesc.bool, 1, 1, (.bool false)⟩) (by kernel_rfl) ⟨_, by kernel_rfl, Try.func205⟩ (look_all tys_ok 48 _ rfl) (look_all tys_ok 4 _ rfl) rfl rfl rfl rfl rfl rfl) ⟨Try.f205, Try.func205, by kernel_rfl, by kernel_rfl⟩ (look_all tys_ok 91 _ rfl) rfl
  · exact ext_clone (s := 89) (b := 4) (clone_lays (is := ⟨(Go.TypeDesc.slice 9), 1, 24, (.slice none 0 0)⟩) (ib := ⟨Go.TypeDesc.bool, 1, 1, (.bool false)⟩) (by kernel_rfl) ⟨_, by kernel_rfl, Try.func206⟩ (look_all tys_ok 89 _ rfl) (look_all tys_ok 4 _ rfl) rfl rfl rfl rfl rfl rfl) ⟨Try.f206, Try.func206, by kernel_rfl, by kernel_rfl⟩ (look_all tys_ok 9 _ rfl) rfl

noncomputable def eqs : List (Nat × List (Nat × Nat)) := [(47, [(0, 0), (1, 0), (2, 0)])]

theorem eqs_ok : ∀ p ∈ eqs, Try.prog.stoodInHeld p.1 = false ∧ Try.prog.eqGuardType Try.prog.depth p.1 = false ∧ (∃ fs, Try.prog.underlying p.1 = some (.struct fs) ∧ eqFits Try.prog fs.toList p.2 = true) := by
  intro p hp
  simp only [eqs, List.mem_cons, List.not_mem_nil, or_false] at hp
  rcases hp with rfl
  · exact ⟨by kernel_rfl, by kernel_rfl, _, Try.underlying47, by kernel_rfl⟩

noncomputable def E : Env := { tys := tys, fns := fns, own := [71, 113, 117, 121, 130, 135, 136, 137, 138, 145, 159, 209, 210, 212, 222, 224, 225, 239, 280, 281, 283], keep := [(143, [(4, [1, 2, 5])]), (54, [(4, [1, 3])]), (159, [(4, [1, 2, 3, 4])]), (281, [(3, [0, 1, 5, 6])]), (283, [(3, [1, 2, 3, 4])]), (312, [(3, [0, 1, 5, 6])]), (313, [(3, [0, 1, 5, 6]), (7, [0, 1, 5, 6, 7, 8])]), (331, [(5, [0, 3, 4])]), (327, [(3, [0, 1, 6, 7, 8])]), (293, [(5, [0, 4, 5])]), (214, [(3, [0, 1, 5, 6])]), (130, [(3, [0, 2, 3, 5])]), (158, [(2, [0, 1, 2, 7])]), (221, [(2, [0, 1, 5])]), (222, [(3, [1, 2, 5, 6])]), (136, [(7, [1, 3, 6, 8, 9])]), (140, [(4, [1, 3])]), (225, [(4, [0, 1, 5, 6, 7])]), (226, [(2, [1, 2, 5])]), (135, [(4, [0, 2, 3, 4, 5]), (12, [0, 2, 3, 6, 8])]), (50, [(7, [2, 3, 4, 5, 6, 8])]), (276, [(2, [0, 1, 7, 8])]), (201, [(4, [3, 28, 29, 30])]), (117, [(3, [1, 2, 10, 11])]), (252, [(2, [0, 3])]), (318, [(2, [0, 1, 7, 8])]), (289, [(2, [0, 1, 7, 8])]), (288, [(3, [1, 2, 5, 6])]), (139, [(4, [1, 34, 35, 36])]), (51, [(7, [4, 6, 29, 30, 31])]), (113, [(4, [1, 2, 3, 4])]), (52, [(7, [3, 4, 6, 7])]), (53, [(5, [1, 5, 12, 13, 14])]), (8, [(15, [3, 4, 5, 9, 10, 11]), (19, [3, 4, 5, 9, 10, 11, 12, 13])])], handN := [71, 121, 136, 138, 145, 199, 205, 206, 209, 222, 224, 276, 299, 318], scal := [8, 54, 113, 115, 117, 139, 140, 141, 142, 143, 156, 157, 158, 159, 197, 198, 201, 213, 218, 219, 220, 221, 226, 227, 228, 229, 230, 231, 237, 252, 253, 279, 282, 285, 286, 287, 289, 292, 293, 312, 313, 314, 315, 326, 327, 330, 331, 1000078, 4000091, 6000048, 2000043, 2000050, 2000069, 2000071, 2000083, 2000091, 2000117, 2000121, 2000203, 2000226, 2000240, 2000267, 2000278, 3000009], pur := [50, 52, 53, 288], takeN := [], ext := ext, eqs := eqs }

theorem ok : EnvOK E Try.prog := ⟨look_all tys_ok, look_all fns_ok, by kernel_rfl, look_all (l := tys) (Q := fun _ (i : TI) => i.zero.cells.size = i.size) (by
  intro p hp
  simp only [tys, List.mem_cons, List.not_mem_nil, or_false] at hp
  rcases hp with rfl | rfl | rfl | rfl | rfl | rfl | rfl | rfl | rfl | rfl | rfl | rfl | rfl | rfl | rfl | rfl | rfl | rfl | rfl | rfl | rfl | rfl | rfl | rfl | rfl | rfl <;> rfl), look_all ext_ok, look_all (l := eqs) (Q := fun t l => Try.prog.stoodInHeld t = false ∧ Try.prog.eqGuardType Try.prog.depth t = false ∧ (∃ fs, Try.prog.underlying t = some (.struct fs) ∧ eqFits Try.prog fs.toList l = true)) eqs_ok⟩

end Go.Proofs.Ytjnhclnnobejgaa.T12

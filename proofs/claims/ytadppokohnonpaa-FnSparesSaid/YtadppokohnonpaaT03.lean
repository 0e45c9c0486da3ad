/- The engine's tables for laws.FnSpares, and that they are the program's own; conditions: none. -/

import Derived.Test.YtadppokohnonpaaEsi
import Derived.Test.YtadppokohnonpaaChecked
import Derived.KernelRfl
namespace Go.Proofs.Ytadppokohnonpaa.T03
open Go.Proofs.YtadppokohnonpaaE

noncomputable def tys : List (Nat × TI) := [(0, ⟨(Go.TypeDesc.tuple #[]), 1, 0, (.tuple #[])⟩),
  (2, ⟨(Go.TypeDesc.int Go.IntKind.i64), 1, 8, (.int .i64 0)⟩),
  (3, ⟨(Go.TypeDesc.int Go.IntKind.i64), 1, 8, (.int .i64 0)⟩),
  (4, ⟨Go.TypeDesc.bool, 1, 1, (.bool false)⟩),
  (5, ⟨(Go.TypeDesc.int Go.IntKind.u8), 1, 1, (.int .u8 0)⟩),
  (22, ⟨(Go.TypeDesc.slice 2), 1, 24, (.slice none 0 0)⟩),
  (37, ⟨(Go.TypeDesc.slice 5), 1, 24, (.slice none 0 0)⟩),
  (39, ⟨(Go.TypeDesc.struct #[{ name := "Dies", type := 2, offset := 0, embedded := Bool.false, tag := "", pkgPath := "", byteOffset := 0 }, { name := "Blocks", type := 2, offset := 1, embedded := Bool.false, tag := "", pkgPath := "", byteOffset := 8 }, { name := "Pages", type := 2, offset := 2, embedded := Bool.false, tag := "", pkgPath := "", byteOffset := 16 }]), 3, 24, (.agg #[(.int .i64 0), (.int .i64 0), (.int .i64 0)])⟩),
  (41, ⟨(Go.TypeDesc.struct #[{ name := "Geo", type := 39, offset := 0, embedded := Bool.false, tag := "", pkgPath := "", byteOffset := 0 }, { name := "Spare", type := 2, offset := 3, embedded := Bool.false, tag := "", pkgPath := "", byteOffset := 24 }, { name := "Bad", type := 22, offset := 4, embedded := Bool.false, tag := "", pkgPath := "", byteOffset := 32 }, { name := "Remap", type := 22, offset := 5, embedded := Bool.false, tag := "", pkgPath := "", byteOffset := 56 }]), 6, 80, (.agg #[(.int .i64 0), (.int .i64 0), (.int .i64 0), (.int .i64 0), (.slice none 0 0), (.slice none 0 0)])⟩),
  (42, ⟨(Go.TypeDesc.tuple #[41, 2]), 1, 0, (.tuple #[(.agg #[(.int .i64 0), (.int .i64 0), (.int .i64 0), (.int .i64 0), (.slice none 0 0), (.slice none 0 0)]), (.int .i64 0)])⟩),
  (46, ⟨(Go.TypeDesc.tuple #[2, 2]), 1, 0, (.tuple #[(.int .i64 0), (.int .i64 0)])⟩),
  (131, ⟨(Go.TypeDesc.int Go.IntKind.u64), 1, 8, (.int .u64 0)⟩),
  (158, ⟨(Go.TypeDesc.pointer 241), 1, 8, (.pointer none)⟩),
  (209, ⟨(Go.TypeDesc.func #[2] #[4] Bool.false), 1, 8, .nilFunc⟩),
  (224, ⟨(Go.TypeDesc.int Go.IntKind.u64), 1, 8, (.int .u64 0)⟩),
  (241, ⟨(Go.TypeDesc.struct #[{ name := "code", type := 37, offset := 0, embedded := Bool.false, tag := "", pkgPath := "loop.example/g00905/spec", byteOffset := 0 }, { name := "at", type := 3, offset := 1, embedded := Bool.false, tag := "", pkgPath := "loop.example/g00905/spec", byteOffset := 24 }, { name := "seed", type := 131, offset := 2, embedded := Bool.false, tag := "", pkgPath := "loop.example/g00905/spec", byteOffset := 32 }]), 3, 40, (.agg #[(.slice none 0 0), (.int .i64 0), (.int .u64 0)])⟩),
  (247, ⟨(Go.TypeDesc.tuple #[3, 4]), 1, 0, (.tuple #[(.int .i64 0), (.bool false)])⟩)]

theorem tys_ok : ∀ p ∈ tys, ∃ ti, Try.prog.info? p.1 = some ti ∧ Try.prog.underlying p.1 = some p.2.desc ∧ ti.size = p.2.size ∧ ti.bytes = p.2.bytes ∧ ti.zero = some p.2.zero := by
  intro p hp
  simp only [tys, List.mem_cons, List.not_mem_nil, or_false] at hp
  rcases hp with rfl | rfl | rfl | rfl | rfl | rfl | rfl | rfl | rfl | rfl | rfl | rfl | rfl | rfl | rfl | rfl | rfl
  · exact info_of (by kernel_rfl) Try.underlying0
  · exact info_of (by kernel_rfl) Try.underlying2
  · exact info_of (by kernel_rfl) Try.underlying3
  · exact info_of (by kernel_rfl) Try.underlying4
  · exact info_of (by kernel_rfl) Try.underlying5
  · exact info_of (by kernel_rfl) Try.underlying22
  · exact info_of (by kernel_rfl) Try.underlying37
  · exact info_of (by kernel_rfl) Try.underlying39
  · exact info_of (by kernel_rfl) Try.underlying41
  · exact info_of (by kernel_rfl) Try.underlying42
  · exact info_of (by kernel_rfl) Try.underlying46
  · exact info_of (by kernel_rfl) Try.underlying131
  · exact info_of (by kernel_rfl) Try.underlying158
  · exact info_of (by kernel_rfl) Try.underlying209
  · exact info_of (by kernel_rfl) Try.underlying224
  · exact info_of (by kernel_rfl) Try.underlying241
  · exact info_of (by kernel_rfl) Try.underlying247

noncomputable def fns : List (Nat × Func) := [(105, Try.f105), (115, Try.f115), (113, Try.f113), (114, Try.f114), (168, Try.f168), (186, Try.f186), (217, Try.f217), (218, Try.f218), (219, Try.f219), (112, Try.f112), (183, Try.f183), (116, Try.f116), (117, Try.f117), (118, Try.f118), (119, Try.f119), (26, Try.f26), (262, Try.f262), (167, Try.f167), (123, Try.f123), (165, Try.f165), (166, Try.f166), (206, Try.f206), (106, Try.f106), (107, Try.f107), (24, Try.f24), (110, Try.f110), (200, Try.f200), (303, Try.f303), (292, Try.f292), (109, Try.f109), (293, Try.f293), (201, Try.f201), (185, Try.f185), (207, Try.f207), (208, Try.f208), (297, Try.f297), (209, Try.f209), (214, Try.f214), (211, Try.f211), (212, Try.f212), (221, Try.f221), (298, Try.f298), (210, Try.f210), (108, Try.f108), (220, Try.f220), (222, Try.f222), (121, Try.f121), (213, Try.f213), (339, Try.f339), (299, Try.f299), (300, Try.f300), (215, Try.f215), (111, Try.f111), (25, Try.f25), (120, Try.f120), (27, Try.f27), (28, Try.f28), (29, Try.f29), (30, Try.f30), (5, Try.f5)]

theorem fns_ok : ∀ p ∈ fns, Try.prog.funcs[p.1]? = some p.2 ∧ (p.2.name == "runtime.NumGoroutine") = false ∧ drawsF [5, 27, 28, 29, 30, 108, 109, 110, 112, 113, 114, 115, 118, 120, 168, 185, 186, 200, 201, 207, 208, 209, 210, 211, 212, 214, 215, 217, 218, 219, 297, 298, 299, 300, 339, 2000025, 2000032, 2000041, 2000055, 2000068, 2000070, 2000080, 2000086, 2000109, 2000123, 2000241, 2000265, 2000296] [24, 25, 111] p.2 = true := by
  intro p hp
  simp only [fns, List.mem_cons, List.not_mem_nil, or_false] at hp
  rcases hp with rfl | rfl | rfl | rfl | rfl | rfl | rfl | rfl | rfl | rfl | rfl | rfl | rfl | rfl | rfl | rfl | rfl | rfl | rfl | rfl | rfl | rfl | rfl | rfl | rfl | rfl | rfl | rfl | rfl | rfl | rfl | rfl | rfl | rfl | rfl | rfl | rfl | rfl | rfl | rfl | rfl | rfl | rfl | rfl | rfl | rfl | rfl | rfl | rfl | rfl | rfl | rfl | rfl | rfl | rfl | rfl | rfl | rfl | rfl | rfl
  · exact ⟨Try.func105, by kernel_rfl, by kernel_rfl⟩
  · exact ⟨Try.func115, by kernel_rfl, by kernel_rfl⟩
  · exact ⟨Try.func113, by kernel_rfl, by kernel_rfl⟩
  · exact ⟨Try.func114, by kernel_rfl, by kernel_rfl⟩
  · exact ⟨Try.func168, by kernel_rfl, by kernel_rfl⟩
  · exact ⟨Try.func186, by kernel_rfl, by kernel_rfl⟩
  · exact ⟨Try.func217, by kernel_rfl, by kernel_rfl⟩
  · exact ⟨Try.func218, by kernel_rfl, by kernel_rfl⟩
  · exact ⟨Try.func219, by kernel_rfl, by kernel_rfl⟩
  · exact ⟨Try.func112, by kernel_rfl, by kernel_rfl⟩
  · exact ⟨Try.func183, by kernel_rfl, by kernel_rfl⟩
  · exact ⟨Try.func116, by kernel_rfl, by kernel_rfl⟩
  · exact ⟨Try.func117, by kernel_rfl, by kernel_rfl⟩
  · exact ⟨Try.func118, by kernel_rfl, by kernel_rfl⟩
  · exact ⟨Try.func119, by kernel_rfl, by kernel_rfl⟩
  · exact ⟨Try.func26, by kernel_rfl, by kernel_rfl⟩
  · exact ⟨Try.func262, by kernel_rfl, by kernel_rfl⟩
  · exact ⟨Try.func167, by kernel_rfl, by kernel_rfl⟩
  · exact ⟨Try.func123, by kernel_rfl, by kernel_rfl⟩
  · exact ⟨Try.func165, by kernel_rfl, by kernel_rfl⟩
  · exact ⟨Try.func166, by kernel_rfl, by kernel_rfl⟩
  · exact ⟨Try.func206, by kernel_rfl, by kernel_rfl⟩
  · exact ⟨Try.func106, by kernel_rfl, by kernel_rfl⟩
  · exact ⟨Try.func107, by kernel_rfl, by kernel_rfl⟩
  · exact ⟨Try.func24, by kernel_rfl, by kernel_rfl⟩
  · exact ⟨Try.func110, by kernel_rfl, by kernel_rfl⟩
  · exact ⟨Try.func200, by kernel_rfl, by kernel_rfl⟩
  · exact ⟨Try.func303, by kernel_rfl, by kernel_rfl⟩
  · exact ⟨Try.func292, by kernel_rfl, by kernel_rfl⟩
  · exact ⟨Try.func109, by kernel_rfl, by kernel_rfl⟩
  · exact ⟨Try.func293, by kernel_rfl, by kernel_rfl⟩
  · exact ⟨Try.func201, by kernel_rfl, by kernel_rfl⟩
  · exact ⟨Try.func185, by kernel_rfl, by kernel_rfl⟩
  · exact ⟨Try.func207, by kernel_rfl, by kernel_rfl⟩
  · exact ⟨Try.func208, by kernel_rfl, by kernel_rfl⟩
  · exact ⟨Try.func297, by kernel_rfl, by kernel_rfl⟩
  · exact ⟨Try.func209, by kernel_rfl, by kernel_rfl⟩
  · exact ⟨Try.func214, by kernel_rfl, by kernel_rfl⟩
  · exact ⟨Try.func211, by kernel_rfl, by kernel_rfl⟩
  · exact ⟨Try.func212, by kernel_rfl, by kernel_rfl⟩
  · exact ⟨Try.func221, by kernel_rfl, by kernel_rfl⟩
  · exact ⟨Try.func298, by kernel_rfl, by kernel_rfl⟩
  · exact ⟨Try.func210, by kernel_rfl, by kernel_rfl⟩
  · exact ⟨Try.func108, by kernel_rfl, by kernel_rfl⟩
  · exact ⟨Try.func220, by kernel_rfl, by kernel_rfl⟩
  · exact ⟨Try.func222, by kernel_rfl, by kernel_rfl⟩
  · exact ⟨Try.func121, by kernel_rfl, by kernel_rfl⟩
  · exact ⟨Try.func213, by kernel_rfl, by kernel_rfl⟩
  · exact ⟨Try.func339, by kernel_rfl, by kernel_rfl⟩
  · exact ⟨Try.func299, by kernel_rfl, by kernel_rfl⟩
  · exact ⟨Try.func300, by kernel_rfl, by kernel_rfl⟩
  · exact ⟨Try.func215, by kernel_rfl, by kernel_rfl⟩
  · exact ⟨Try.func111, by kernel_rfl, by kernel_rfl⟩
  · exact ⟨Try.func25, by kernel_rfl, by kernel_rfl⟩
  · exact ⟨Try.func120, by kernel_rfl, by kernel_rfl⟩
  · exact ⟨Try.func27, by kernel_rfl, by kernel_rfl⟩
  · exact ⟨Try.func28, by kernel_rfl, by kernel_rfl⟩
  · exact ⟨Try.func29, by kernel_rfl, by kernel_rfl⟩
  · exact ⟨Try.func30, by kernel_rfl, by kernel_rfl⟩
  · exact ⟨Try.func5, by kernel_rfl, by kernel_rfl⟩

noncomputable def ext : List (Nat × (List V → Fo → Option (V × Fo))) := [(181, extClone 2 ⟨(Go.TypeDesc.int Go.IntKind.i64), 1, 8, (.int .i64 0)⟩),
  (216, extInsert 2 ⟨(Go.TypeDesc.int Go.IntKind.i64), 1, 8, (.int .i64 0)⟩)]

theorem ext_ok : ∀ p ∈ ext, ExtOK Try.prog p.1 p.2 := by
  intro p hp
  simp only [ext, List.mem_cons, List.not_mem_nil, or_false] at hp
  rcases hp with rfl | rfl
  · exact ext_clone (s := 22) (b := 4) (clone_lays (is := ⟨(Go.TypeDesc.slice 2), 1, 24, (.slice none 0 0)⟩) (ib := ⟨Go.TypeDesc.bool, 1, 1, (.bool false)⟩) (by kernel_rfl) ⟨_, by kernel_rfl, Try.func181⟩ (look_all tys_ok 22 _ rfl) (look_all tys_ok 4 _ rfl) rfl rfl rfl rfl rfl rfl) ⟨Try.f181, Try.func181, by kernel_rfl, by kernel_rfl⟩ (look_all tys_ok 2 _ rfl) rfl
  · exact ext_insert (ρ := renI 216 22 2 0 3 4 301 302) rfl (insert_lays (is := ⟨(Go.TypeDesc.slice 2), 1, 24, (.slice none 0 0)⟩) (ii := ⟨(Go.TypeDesc.int Go.IntKind.i64), 1, 8, (.int .i64 0)⟩) (ib := ⟨Go.TypeDesc.bool, 1, 1, (.bool false)⟩) (ie := ⟨(Go.TypeDesc.int Go.IntKind.i64), 1, 8, (.int .i64 0)⟩) (by kernel_rfl) ⟨_, by kernel_rfl, Try.func216⟩ Try.func301 (by kernel_rfl) (by kernel_rfl) (by kernel_rfl) (by kernel_rfl) (look_all tys_ok 22 _ rfl) (look_all tys_ok 3 _ rfl) (look_all tys_ok 4 _ rfl) (look_all tys_ok 2 _ rfl) rfl rfl rfl rfl rfl rfl rfl rfl rfl) ⟨Try.f216, Try.func216, by kernel_rfl, by kernel_rfl⟩ (look_all tys_ok 2 _ rfl) rfl (by decide)

noncomputable def eqs : List (Nat × List (Nat × Nat)) := [(39, [(0, 0), (1, 0), (2, 0)])]

theorem eqs_ok : ∀ p ∈ eqs, Try.prog.stoodInHeld p.1 = false ∧ Try.prog.eqGuardType Try.prog.depth p.1 = false ∧ (∃ fs, Try.prog.underlying p.1 = some (.struct fs) ∧ eqFits Try.prog fs.toList p.2 = true) := by
  intro p hp
  simp only [eqs, List.mem_cons, List.not_mem_nil, or_false] at hp
  rcases hp with rfl
  · exact ⟨by kernel_rfl, by kernel_rfl, _, Try.underlying39, by kernel_rfl⟩

noncomputable def E : Env := { tys := tys, fns := fns, own := [26, 116, 117, 119, 121, 123, 166, 167, 183, 213, 216, 220, 221], keep := [(115, [(2, [0, 1, 5])]), (186, [(2, [0, 1, 2, 7])]), (112, [(4, [1, 3])]), (117, [(4, [0, 1, 5, 6, 7])]), (118, [(2, [1, 2, 5])]), (119, [(3, [1, 2, 5, 6])]), (166, [(7, [1, 3, 6, 8, 9])]), (106, [(4, [0, 2, 3, 4, 5]), (12, [0, 2, 3, 6, 8])]), (200, [(2, [0, 3])]), (303, [(2, [0, 1, 7, 8])]), (214, [(2, [0, 1, 7, 8])]), (221, [(3, [1, 2, 5, 6])]), (108, [(4, [1, 34, 35, 36])]), (220, [(5, [0, 1, 5, 6])]), (215, [(3, [0, 1, 6, 7, 8])]), (120, [(4, [0, 1, 5])]), (5, [(12, [3, 4, 5, 9, 10])])], handN := [26, 116, 119, 123, 166, 181, 183, 292, 303], scal := [5, 27, 28, 29, 30, 108, 109, 110, 112, 113, 114, 115, 118, 120, 168, 185, 186, 200, 201, 207, 208, 209, 210, 211, 212, 214, 215, 217, 218, 219, 297, 298, 299, 300, 339, 2000025, 2000032, 2000041, 2000055, 2000068, 2000070, 2000080, 2000086, 2000109, 2000123, 2000241, 2000265, 2000296], pur := [24, 25, 111], takeN := [216, 220], ext := ext, eqs := eqs }

theorem ok : EnvOK E Try.prog := ⟨look_all tys_ok, look_all fns_ok, by kernel_rfl, look_all (l := tys) (Q := fun _ (i : TI) => i.zero.cells.size = i.size) (by
  intro p hp
  simp only [tys, List.mem_cons, List.not_mem_nil, or_false] at hp
  rcases hp with rfl | rfl | rfl | rfl | rfl | rfl | rfl | rfl | rfl | rfl | rfl | rfl | rfl | rfl | rfl | rfl | rfl <;> rfl), look_all ext_ok, look_all (l := eqs) (Q := fun t l => Try.prog.stoodInHeld t = false ∧ Try.prog.eqGuardType Try.prog.depth t = false ∧ (∃ fs, Try.prog.underlying t = some (.struct fs) ∧ eqFits Try.prog fs.toList l = true)) eqs_ok⟩

end Go.Proofs.Ytadppokohnonpaa.T03

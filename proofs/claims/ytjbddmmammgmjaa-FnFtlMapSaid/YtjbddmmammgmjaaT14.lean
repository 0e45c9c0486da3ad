/- The engine's tables for laws.FnFtlMap, and that they are the program's own; conditions: none. -/

import Derived.Test.YtjbddmmammgmjaaEs
import Derived.Test.YtjbddmmammgmjaaChecked
import Derived.KernelRfl
namespace Go.Proofs.Ytjbddmmammgmjaa.T14
open Go.Proofs.YtjbddmmammgmjaaE

noncomputable def tys : List (Nat × TI) := [(2, ⟨(Go.TypeDesc.int Go.IntKind.i64), 1, 8, (.int .i64 0)⟩),
  (3, ⟨(Go.TypeDesc.int Go.IntKind.i64), 1, 8, (.int .i64 0)⟩),
  (4, ⟨Go.TypeDesc.bool, 1, 1, (.bool false)⟩),
  (5, ⟨(Go.TypeDesc.int Go.IntKind.u8), 1, 1, (.int .u8 0)⟩),
  (22, ⟨(Go.TypeDesc.slice 5), 1, 24, (.slice none 0 0)⟩),
  (23, ⟨(Go.TypeDesc.slice 2), 1, 24, (.slice none 0 0)⟩),
  (52, ⟨(Go.TypeDesc.slice 4), 1, 24, (.slice none 0 0)⟩),
  (54, ⟨(Go.TypeDesc.struct #[{ name := "Blocks", type := 2, offset := 0, embedded := Bool.false, tag := "", pkgPath := "", byteOffset := 0 }, { name := "Pages", type := 2, offset := 1, embedded := Bool.false, tag := "", pkgPath := "", byteOffset := 8 }, { name := "Map", type := 23, offset := 2, embedded := Bool.false, tag := "", pkgPath := "", byteOffset := 16 }, { name := "Trimmed", type := 52, offset := 3, embedded := Bool.false, tag := "", pkgPath := "", byteOffset := 40 }]), 4, 64, (.agg #[(.int .i64 0), (.int .i64 0), (.slice none 0 0), (.slice none 0 0)])⟩),
  (55, ⟨(Go.TypeDesc.tuple #[54, 2, 2, 4]), 1, 0, (.tuple #[(.agg #[(.int .i64 0), (.int .i64 0), (.slice none 0 0), (.slice none 0 0)]), (.int .i64 0), (.int .i64 0), (.bool false)])⟩),
  (57, ⟨(Go.TypeDesc.tuple #[54, 2]), 1, 0, (.tuple #[(.agg #[(.int .i64 0), (.int .i64 0), (.slice none 0 0), (.slice none 0 0)]), (.int .i64 0)])⟩),
  (60, ⟨(Go.TypeDesc.tuple #[2, 4]), 1, 0, (.tuple #[(.int .i64 0), (.bool false)])⟩),
  (144, ⟨(Go.TypeDesc.pointer 232), 1, 8, (.pointer none)⟩),
  (171, ⟨(Go.TypeDesc.pointer 54), 1, 8, (.pointer none)⟩),
  (230, ⟨(Go.TypeDesc.int Go.IntKind.u64), 1, 8, (.int .u64 0)⟩),
  (232, ⟨(Go.TypeDesc.struct #[{ name := "code", type := 22, offset := 0, embedded := Bool.false, tag := "", pkgPath := "loop.example/g00905/spec", byteOffset := 0 }, { name := "at", type := 3, offset := 1, embedded := Bool.false, tag := "", pkgPath := "loop.example/g00905/spec", byteOffset := 24 }, { name := "seed", type := 230, offset := 2, embedded := Bool.false, tag := "", pkgPath := "loop.example/g00905/spec", byteOffset := 32 }]), 3, 40, (.agg #[(.slice none 0 0), (.int .i64 0), (.int .u64 0)])⟩)]

theorem tys_ok : ∀ p ∈ tys, ∃ ti, Try.prog.info? p.1 = some ti ∧ Try.prog.underlying p.1 = some p.2.desc ∧ ti.size = p.2.size ∧ ti.bytes = p.2.bytes ∧ ti.zero = some p.2.zero := by
  intro p hp
  simp only [tys, List.mem_cons, List.not_mem_nil, or_false] at hp
  rcases hp with rfl | rfl | rfl | rfl | rfl | rfl | rfl | rfl | rfl | rfl | rfl | rfl | rfl | rfl | rfl
  · exact info_of (by kernel_rfl) Try.underlying2
  · exact info_of (by kernel_rfl) Try.underlying3
  · exact info_of (by kernel_rfl) Try.underlying4
  · exact info_of (by kernel_rfl) Try.underlying5
  · exact info_of (by kernel_rfl) Try.underlying22
  · exact info_of (by kernel_rfl) Try.underlying23
  · exact info_of (by kernel_rfl) Try.underlying52
  · exact info_of (by kernel_rfl) Try.underlying54
  · exact info_of (by kernel_rfl) Try.underlying55
  · exact info_of (by kernel_rfl) Try.underlying57
  · exact info_of (by kernel_rfl) Try.underlying60
  · exact info_of (by kernel_rfl) Try.underlying144
  · exact info_of (by kernel_rfl) Try.underlying171
  · exact info_of (by kernel_rfl) Try.underlying230
  · exact info_of (by kernel_rfl) Try.underlying232

noncomputable def fns : List (Nat × Func) := [(19, Try.f19), (103, Try.f103), (217, Try.f217), (122, Try.f122), (105, Try.f105), (130, Try.f130), (136, Try.f136), (267, Try.f267), (222, Try.f222), (129, Try.f129), (36, Try.f36), (107, Try.f107), (120, Try.f120), (132, Try.f132), (133, Try.f133), (156, Try.f156), (223, Try.f223), (131, Try.f131), (134, Try.f134), (37, Try.f37), (112, Try.f112), (225, Try.f225), (135, Try.f135), (219, Try.f219), (137, Try.f137), (38, Try.f38), (127, Try.f127), (39, Try.f39), (138, Try.f138), (40, Try.f40), (139, Try.f139), (41, Try.f41), (140, Try.f140), (43, Try.f43), (42, Try.f42), (44, Try.f44), (6, Try.f6)]

theorem fns_ok : ∀ p ∈ fns, Try.prog.funcs[p.1]? = some p.2 ∧ (p.2.name == "runtime.NumGoroutine") = false ∧ drawsF [6, 19, 39, 40, 41, 42, 44, 107, 112, 120, 127, 131, 132, 133, 138, 139, 156, 223, 225, 2000025, 2000042, 2000054, 2000066, 2000131, 2000136, 2000232, 2000250, 2000272, 2000278] [36, 37, 38, 43, 140] p.2 = true := by
  intro p hp
  simp only [fns, List.mem_cons, List.not_mem_nil, or_false] at hp
  rcases hp with rfl | rfl | rfl | rfl | rfl | rfl | rfl | rfl | rfl | rfl | rfl | rfl | rfl | rfl | rfl | rfl | rfl | rfl | rfl | rfl | rfl | rfl | rfl | rfl | rfl | rfl | rfl | rfl | rfl | rfl | rfl | rfl | rfl | rfl | rfl | rfl | rfl
  · exact ⟨Try.func19, by kernel_rfl, by kernel_rfl⟩
  · exact ⟨Try.func103, by kernel_rfl, by kernel_rfl⟩
  · exact ⟨Try.func217, by kernel_rfl, by kernel_rfl⟩
  · exact ⟨Try.func122, by kernel_rfl, by kernel_rfl⟩
  · exact ⟨Try.func105, by kernel_rfl, by kernel_rfl⟩
  · exact ⟨Try.func130, by kernel_rfl, by kernel_rfl⟩
  · exact ⟨Try.func136, by kernel_rfl, by kernel_rfl⟩
  · exact ⟨Try.func267, by kernel_rfl, by kernel_rfl⟩
  · exact ⟨Try.func222, by kernel_rfl, by kernel_rfl⟩
  · exact ⟨Try.func129, by kernel_rfl, by kernel_rfl⟩
  · exact ⟨Try.func36, by kernel_rfl, by kernel_rfl⟩
  · exact ⟨Try.func107, by kernel_rfl, by kernel_rfl⟩
  · exact ⟨Try.func120, by kernel_rfl, by kernel_rfl⟩
  · exact ⟨Try.func132, by kernel_rfl, by kernel_rfl⟩
  · exact ⟨Try.func133, by kernel_rfl, by kernel_rfl⟩
  · exact ⟨Try.func156, by kernel_rfl, by kernel_rfl⟩
  · exact ⟨Try.func223, by kernel_rfl, by kernel_rfl⟩
  · exact ⟨Try.func131, by kernel_rfl, by kernel_rfl⟩
  · exact ⟨Try.func134, by kernel_rfl, by kernel_rfl⟩
  · exact ⟨Try.func37, by kernel_rfl, by kernel_rfl⟩
  · exact ⟨Try.func112, by kernel_rfl, by kernel_rfl⟩
  · exact ⟨Try.func225, by kernel_rfl, by kernel_rfl⟩
  · exact ⟨Try.func135, by kernel_rfl, by kernel_rfl⟩
  · exact ⟨Try.func219, by kernel_rfl, by kernel_rfl⟩
  · exact ⟨Try.func137, by kernel_rfl, by kernel_rfl⟩
  · exact ⟨Try.func38, by kernel_rfl, by kernel_rfl⟩
  · exact ⟨Try.func127, by kernel_rfl, by kernel_rfl⟩
  · exact ⟨Try.func39, by kernel_rfl, by kernel_rfl⟩
  · exact ⟨Try.func138, by kernel_rfl, by kernel_rfl⟩
  · exact ⟨Try.func40, by kernel_rfl, by kernel_rfl⟩
  · exact ⟨Try.func139, by kernel_rfl, by kernel_rfl⟩
  · exact ⟨Try.func41, by kernel_rfl, by kernel_rfl⟩
  · exact ⟨Try.func140, by kernel_rfl, by kernel_rfl⟩
  · exact ⟨Try.func43, by kernel_rfl, by kernel_rfl⟩
  · exact ⟨Try.func42, by kernel_rfl, by kernel_rfl⟩
  · exact ⟨Try.func44, by kernel_rfl, by kernel_rfl⟩
  · exact ⟨Try.func6, by kernel_rfl, by kernel_rfl⟩

noncomputable def ext : List (Nat × (List V → Fo → Option (V × Fo))) := [(211, extClone 2 ⟨(Go.TypeDesc.int Go.IntKind.i64), 1, 8, (.int .i64 0)⟩),
  (224, extClone 4 ⟨Go.TypeDesc.bool, 1, 1, (.bool false)⟩)]

theorem ext_ok : ∀ p ∈ ext, ExtOK Try.prog p.1 p.2 := by
  intro p hp
  simp only [ext, List.mem_cons, List.not_mem_nil, or_false] at hp
  rcases hp with rfl | rfl
  · exact ext_clone (s := 23) (b := 4) (clone_lays (is := ⟨(Go.TypeDesc.slice 2), 1, 24, (.slice none 0 0)⟩) (ib := ⟨Go.TypeDesc.bool, 1, 1, (.bool false)⟩) (by kernel_rfl) ⟨_, by kernel_rfl, Try.func211⟩ (look_all tys_ok 23 _ rfl) (look_all tys_ok 4 _ rfl) rfl rfl rfl rfl rfl rfl) ⟨Try.f211, Try.func211, by kernel_rfl, by kernel_rfl⟩ (look_all tys_ok 2 _ rfl) rfl
  · exact ext_clone (s := 52) (b := 4) (clone_lays (is := ⟨(Go.TypeDesc.slice 4), 1, 24, (.slice none 0 0)⟩) (ib := ⟨Go.TypeDesc.bool, 1, 1, (.bool false)⟩) (by kernel_rfl) ⟨_, by kernel_rfl, Try.func224⟩ (look_all tys_ok 52 _ rfl) (look_all tys_ok 4 _ rfl) rfl rfl rfl rfl rfl rfl) ⟨Try.f224, Try.func224, by kernel_rfl, by kernel_rfl⟩ (look_all tys_ok 4 _ rfl) rfl

noncomputable def eqs : List (Nat × List (Nat × Nat)) := []

theorem eqs_ok : ∀ p ∈ eqs, Try.prog.stoodInHeld p.1 = false ∧ Try.prog.eqGuardType Try.prog.depth p.1 = false ∧ (∃ fs, Try.prog.underlying p.1 = some (.struct fs) ∧ eqFits Try.prog fs.toList p.2 = true) := by
  intro p hp
  exact absurd hp List.not_mem_nil

noncomputable def E : Env := { tys := tys, fns := fns, own := [105, 122, 130, 134, 137, 219, 222, 267], keep := [(136, [(2, [0, 1, 5])]), (267, [(3, [0, 6, 7, 8])]), (222, [(5, [0, 2, 5, 6])]), (133, [(2, [0, 1, 7, 8])]), (131, [(4, [1, 28, 29, 30])]), (135, [(4, [0, 3]), (9, [0, 3, 4])]), (127, [(4, [0, 1, 5])]), (39, [(4, [2, 3, 5])]), (140, [(3, [1, 2, 5, 6])]), (6, [(16, [7, 15, 16]), (24, [7, 15, 18, 19])])], handN := [105], scal := [6, 19, 39, 40, 41, 42, 44, 107, 112, 120, 127, 131, 132, 133, 138, 139, 156, 223, 225, 2000025, 2000042, 2000054, 2000066, 2000131, 2000136, 2000232, 2000250, 2000272, 2000278], pur := [36, 37, 38, 43, 140], takeN := [], ext := ext, eqs := eqs }

theorem ok : EnvOK E Try.prog := ⟨look_all tys_ok, look_all fns_ok, by kernel_rfl, look_all (l := tys) (Q := fun _ (i : TI) => i.zero.cells.size = i.size) (by
  intro p hp
  simp only [tys, List.mem_cons, List.not_mem_nil, or_false] at hp
  rcases hp with rfl | rfl | rfl | rfl | rfl | rfl | rfl | rfl | rfl | rfl | rfl | rfl | rfl | rfl | rfl <;> rfl), look_all ext_ok, look_all (l := eqs) (Q := fun t l => Try.prog.stoodInHeld t = false ∧ Try.prog.eqGuardType Try.prog.depth t = false ∧ (∃ fs, Try.prog.underlying t = some (.struct fs) ∧ eqFits Try.prog fs.toList l = true)) eqs_ok⟩

end Go.Proofs.Ytjbddmmammgmjaa.T14

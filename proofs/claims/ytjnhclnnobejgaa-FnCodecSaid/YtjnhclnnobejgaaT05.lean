/- The engine's tables for laws.FnCodec, and that they are the program's own; conditions: none. -/

import Derived.Test.YtjnhclnnobejgaaEsi
import Derived.Test.YtjnhclnnobejgaaChecked
import Derived.KernelRfl
namespace Go.Proofs.Ytjnhclnnobejgaa.T05
open Go.Proofs.YtjnhclnnobejgaaE

noncomputable def tys : List (Nat × TI) := [(2, ⟨(Go.TypeDesc.int Go.IntKind.i64), 1, 8, (.int .i64 0)⟩),
  (3, ⟨(Go.TypeDesc.int Go.IntKind.i64), 1, 8, (.int .i64 0)⟩),
  (4, ⟨Go.TypeDesc.bool, 1, 1, (.bool false)⟩),
  (5, ⟨(Go.TypeDesc.int Go.IntKind.u8), 1, 1, (.int .u8 0)⟩),
  (9, ⟨Go.TypeDesc.string, 1, 16, (.string ⟨#[]⟩)⟩),
  (67, ⟨(Go.TypeDesc.slice 2), 1, 24, (.slice none 0 0)⟩),
  (78, ⟨(Go.TypeDesc.slice 5), 1, 24, (.slice none 0 0)⟩),
  (89, ⟨(Go.TypeDesc.slice 9), 1, 24, (.slice none 0 0)⟩),
  (111, ⟨(Go.TypeDesc.int Go.IntKind.u64), 1, 8, (.int .u64 0)⟩),
  (130, ⟨(Go.TypeDesc.tuple #[2, 2, 4]), 1, 0, (.tuple #[(.int .i64 0), (.int .i64 0), (.bool false)])⟩),
  (134, ⟨(Go.TypeDesc.tuple #[9, 2, 4]), 1, 0, (.tuple #[(.string ⟨#[]⟩), (.int .i64 0), (.bool false)])⟩),
  (170, ⟨(Go.TypeDesc.pointer 240), 1, 8, (.pointer none)⟩),
  (197, ⟨(Go.TypeDesc.int Go.IntKind.u64), 1, 8, (.int .u64 0)⟩),
  (240, ⟨(Go.TypeDesc.struct #[{ name := "code", type := 78, offset := 0, embedded := Bool.false, tag := "", pkgPath := "loop.example/g00905/spec", byteOffset := 0 }, { name := "at", type := 3, offset := 1, embedded := Bool.false, tag := "", pkgPath := "loop.example/g00905/spec", byteOffset := 24 }, { name := "seed", type := 111, offset := 2, embedded := Bool.false, tag := "", pkgPath := "loop.example/g00905/spec", byteOffset := 32 }]), 3, 40, (.agg #[(.slice none 0 0), (.int .i64 0), (.int .u64 0)])⟩)]

theorem tys_ok : ∀ p ∈ tys, ∃ ti, Try.prog.info? p.1 = some ti ∧ Try.prog.underlying p.1 = some p.2.desc ∧ ti.size = p.2.size ∧ ti.bytes = p.2.bytes ∧ ti.zero = some p.2.zero := by
  intro p hp
  simp only [tys, List.mem_cons, List.not_mem_nil, or_false] at hp
  rcases hp with rfl | rfl | rfl | rfl | rfl | rfl | rfl | rfl | rfl | rfl | rfl | rfl | rfl | rfl
  · exact info_of (by kernel_rfl) Try.underlying2
  · exact info_of (by kernel_rfl) Try.underlying3
  · exact info_of (by kernel_rfl) Try.underlying4
  · exact info_of (by kernel_rfl) Try.underlying5
  · exact info_of (by kernel_rfl) Try.underlying9
  · exact info_of (by kernel_rfl) Try.underlying67
  · exact info_of (by kernel_rfl) Try.underlying78
  · exact info_of (by kernel_rfl) Try.underlying89
  · exact info_of (by kernel_rfl) Try.underlying111
  · exact info_of (by kernel_rfl) Try.underlying130
  · exact info_of (by kernel_rfl) Try.underlying134
  · exact info_of (by kernel_rfl) Try.underlying170
  · exact info_of (by kernel_rfl) Try.underlying197
  · exact info_of (by kernel_rfl) Try.underlying240

noncomputable def fns : List (Nat × Func) := [(55, Try.f55), (129, Try.f129), (223, Try.f223), (137, Try.f137), (145, Try.f145), (175, Try.f175), (83, Try.f83), (84, Try.f84), (85, Try.f85), (134, Try.f134), (176, Try.f176), (179, Try.f179), (177, Try.f177), (178, Try.f178), (86, Try.f86), (87, Try.f87), (88, Try.f88), (89, Try.f89), (90, Try.f90), (157, Try.f157), (180, Try.f180), (91, Try.f91), (13, Try.f13)]

theorem fns_ok : ∀ p ∈ fns, Try.prog.funcs[p.1]? = some p.2 ∧ (p.2.name == "runtime.NumGoroutine") = false ∧ drawsF [13, 55, 83, 84, 85, 86, 87, 88, 89, 90, 91, 157, 178, 180, 1000078, 5000078, 2000043, 2000050, 2000069, 2000071, 2000083, 2000091, 2000117, 2000121, 2000203, 2000226, 2000240, 2000267, 2000278, 3000009] [] p.2 = true := by
  intro p hp
  simp only [fns, List.mem_cons, List.not_mem_nil, or_false] at hp
  rcases hp with rfl | rfl | rfl | rfl | rfl | rfl | rfl | rfl | rfl | rfl | rfl | rfl | rfl | rfl | rfl | rfl | rfl | rfl | rfl | rfl | rfl | rfl | rfl
  · exact ⟨Try.func55, by kernel_rfl, by kernel_rfl⟩
  · exact ⟨Try.func129, by kernel_rfl, by kernel_rfl⟩
  · exact ⟨Try.func223, by kernel_rfl, by kernel_rfl⟩
  · exact ⟨Try.func137, by kernel_rfl, by kernel_rfl⟩
  · exact ⟨Try.func145, by kernel_rfl, by kernel_rfl⟩
  · exact ⟨Try.func175, by kernel_rfl, by kernel_rfl⟩
  · exact ⟨Try.func83, by kernel_rfl, by kernel_rfl⟩
  · exact ⟨Try.func84, by kernel_rfl, by kernel_rfl⟩
  · exact ⟨Try.func85, by kernel_rfl, by kernel_rfl⟩
  · exact ⟨Try.func134, by kernel_rfl, by kernel_rfl⟩
  · exact ⟨Try.func176, by kernel_rfl, by kernel_rfl⟩
  · exact ⟨Try.func179, by kernel_rfl, by kernel_rfl⟩
  · exact ⟨Try.func177, by kernel_rfl, by kernel_rfl⟩
  · exact ⟨Try.func178, by kernel_rfl, by kernel_rfl⟩
  · exact ⟨Try.func86, by kernel_rfl, by kernel_rfl⟩
  · exact ⟨Try.func87, by kernel_rfl, by kernel_rfl⟩
  · exact ⟨Try.func88, by kernel_rfl, by kernel_rfl⟩
  · exact ⟨Try.func89, by kernel_rfl, by kernel_rfl⟩
  · exact ⟨Try.func90, by kernel_rfl, by kernel_rfl⟩
  · exact ⟨Try.func157, by kernel_rfl, by kernel_rfl⟩
  · exact ⟨Try.func180, by kernel_rfl, by kernel_rfl⟩
  · exact ⟨Try.func91, by kernel_rfl, by kernel_rfl⟩
  · exact ⟨Try.func13, by kernel_rfl, by kernel_rfl⟩

noncomputable def ext : List (Nat × (List V → Fo → Option (V × Fo))) := []

theorem ext_ok : ∀ p ∈ ext, ExtOK Try.prog p.1 p.2 := by
  intro p hp
  exact absurd hp List.not_mem_nil

noncomputable def eqs : List (Nat × List (Nat × Nat)) := []

theorem eqs_ok : ∀ p ∈ eqs, Try.prog.stoodInHeld p.1 = false ∧ Try.prog.eqGuardType Try.prog.depth p.1 = false ∧ (∃ fs, Try.prog.underlying p.1 = some (.struct fs) ∧ eqFits Try.prog fs.toList p.2 = true) := by
  intro p hp
  exact absurd hp List.not_mem_nil

noncomputable def E : Env := { tys := tys, fns := fns, own := [], keep := [(84, [(4, [0, 3])]), (85, [(3, [0, 5, 6])]), (179, [(3, [0, 5, 6])]), (178, [(4, [0, 3])]), (90, [(5, [0, 3, 9, 10])]), (180, [(3, [0, 5, 10, 11])])], handN := [], scal := [13, 55, 83, 84, 85, 86, 87, 88, 89, 90, 91, 157, 178, 180, 1000078, 5000078, 2000043, 2000050, 2000069, 2000071, 2000083, 2000091, 2000117, 2000121, 2000203, 2000226, 2000240, 2000267, 2000278, 3000009], pur := [], takeN := [], ext := ext, eqs := eqs }

theorem ok : EnvOK E Try.prog := ⟨look_all tys_ok, look_all fns_ok, by kernel_rfl, look_all (l := tys) (Q := fun _ (i : TI) => i.zero.cells.size = i.size) (by
  intro p hp
  simp only [tys, List.mem_cons, List.not_mem_nil, or_false] at hp
  rcases hp with rfl | rfl | rfl | rfl | rfl | rfl | rfl | rfl | rfl | rfl | rfl | rfl | rfl | rfl <;> rfl), look_all ext_ok, look_all (l := eqs) (Q := fun t l => Try.prog.stoodInHeld t = false ∧ Try.prog.eqGuardType Try.prog.depth t = false ∧ (∃ fs, Try.prog.underlying t = some (.struct fs) ∧ eqFits Try.prog fs.toList l = true)) eqs_ok⟩

end Go.Proofs.Ytjnhclnnobejgaa.T05

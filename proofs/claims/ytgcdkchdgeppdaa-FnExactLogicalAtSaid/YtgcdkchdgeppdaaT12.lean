/- The engine's tables for laws.FnExactLogicalAt, and that they are the program's own; conditions: none. -/

import Derived.Test.YtgcdkchdgeppdaaEp
import Derived.Test.YtgcdkchdgeppdaaChecked
import Derived.KernelRfl
namespace Go.Proofs.Ytgcdkchdgeppdaa.T12
open Go.Proofs.YtgcdkchdgeppdaaE

noncomputable def tys : List (Nat × TI) := [(2, ⟨(Go.TypeDesc.int Go.IntKind.i64), 1, 8, (.int .i64 0)⟩),
  (3, ⟨(Go.TypeDesc.int Go.IntKind.i64), 1, 8, (.int .i64 0)⟩),
  (4, ⟨Go.TypeDesc.bool, 1, 1, (.bool false)⟩),
  (66, ⟨(Go.TypeDesc.slice 2), 1, 24, (.slice none 0 0)⟩),
  (102, ⟨(Go.TypeDesc.slice 4), 1, 24, (.slice none 0 0)⟩),
  (104, ⟨(Go.TypeDesc.struct #[{ name := "Blocks", type := 2, offset := 0, embedded := Bool.false, tag := "", pkgPath := "", byteOffset := 0 }, { name := "Pages", type := 2, offset := 1, embedded := Bool.false, tag := "", pkgPath := "", byteOffset := 8 }, { name := "Map", type := 66, offset := 2, embedded := Bool.false, tag := "", pkgPath := "", byteOffset := 16 }, { name := "Trimmed", type := 102, offset := 3, embedded := Bool.false, tag := "", pkgPath := "", byteOffset := 40 }]), 4, 64, (.agg #[(.int .i64 0), (.int .i64 0), (.slice none 0 0), (.slice none 0 0)])⟩),
  (108, ⟨(Go.TypeDesc.struct #[{ name := "Blocks", type := 2, offset := 0, embedded := Bool.false, tag := "", pkgPath := "", byteOffset := 0 }, { name := "Pages", type := 2, offset := 1, embedded := Bool.false, tag := "", pkgPath := "", byteOffset := 8 }, { name := "Map", type := 66, offset := 2, embedded := Bool.false, tag := "", pkgPath := "", byteOffset := 16 }, { name := "Trimmed", type := 102, offset := 3, embedded := Bool.false, tag := "", pkgPath := "", byteOffset := 40 }]), 4, 64, (.agg #[(.int .i64 0), (.int .i64 0), (.slice none 0 0), (.slice none 0 0)])⟩),
  (158, ⟨(Go.TypeDesc.pointer 108), 1, 8, (.pointer none)⟩)]

theorem tys_ok : ∀ p ∈ tys, ∃ ti, Try.prog.info? p.1 = some ti ∧ Try.prog.underlying p.1 = some p.2.desc ∧ ti.size = p.2.size ∧ ti.bytes = p.2.bytes ∧ ti.zero = some p.2.zero := by
  intro p hp
  simp only [tys, List.mem_cons, List.not_mem_nil, or_false] at hp
  rcases hp with rfl | rfl | rfl | rfl | rfl | rfl | rfl | rfl
  · exact info_of (by kernel_rfl) Try.underlying2
  · exact info_of (by kernel_rfl) Try.underlying3
  · exact info_of (by kernel_rfl) Try.underlying4
  · exact info_of (by kernel_rfl) Try.underlying66
  · exact info_of (by kernel_rfl) Try.underlying102
  · exact info_of (by kernel_rfl) Try.underlying104
  · exact info_of (by kernel_rfl) Try.underlying108
  · exact info_of (by kernel_rfl) Try.underlying158

noncomputable def fns : List (Nat × Func) := [(134, Try.f134), (135, Try.f135), (74, Try.f74), (79, Try.f79), (175, Try.f175), (136, Try.f136), (137, Try.f137), (75, Try.f75), (138, Try.f138), (139, Try.f139), (76, Try.f76), (80, Try.f80), (176, Try.f176), (177, Try.f177), (179, Try.f179), (178, Try.f178), (140, Try.f140), (141, Try.f141), (77, Try.f77), (142, Try.f142), (143, Try.f143), (78, Try.f78), (14, Try.f14)]

theorem fns_ok : ∀ p ∈ fns, Try.prog.funcs[p.1]? = some p.2 ∧ (p.2.name == "runtime.NumGoroutine") = false ∧ drawsF [14, 74, 75, 77, 78, 79, 80, 134, 135, 140, 141, 142, 143, 175, 176, 177, 178, 179] [76, 138, 139] p.2 = true := by
  intro p hp
  simp only [fns, List.mem_cons, List.not_mem_nil, or_false] at hp
  rcases hp with rfl | rfl | rfl | rfl | rfl | rfl | rfl | rfl | rfl | rfl | rfl | rfl | rfl | rfl | rfl | rfl | rfl | rfl | rfl | rfl | rfl | rfl | rfl
  · exact ⟨Try.func134, by kernel_rfl, by kernel_rfl⟩
  · exact ⟨Try.func135, by kernel_rfl, by kernel_rfl⟩
  · exact ⟨Try.func74, by kernel_rfl, by kernel_rfl⟩
  · exact ⟨Try.func79, by kernel_rfl, by kernel_rfl⟩
  · exact ⟨Try.func175, by kernel_rfl, by kernel_rfl⟩
  · exact ⟨Try.func136, by kernel_rfl, by kernel_rfl⟩
  · exact ⟨Try.func137, by kernel_rfl, by kernel_rfl⟩
  · exact ⟨Try.func75, by kernel_rfl, by kernel_rfl⟩
  · exact ⟨Try.func138, by kernel_rfl, by kernel_rfl⟩
  · exact ⟨Try.func139, by kernel_rfl, by kernel_rfl⟩
  · exact ⟨Try.func76, by kernel_rfl, by kernel_rfl⟩
  · exact ⟨Try.func80, by kernel_rfl, by kernel_rfl⟩
  · exact ⟨Try.func176, by kernel_rfl, by kernel_rfl⟩
  · exact ⟨Try.func177, by kernel_rfl, by kernel_rfl⟩
  · exact ⟨Try.func179, by kernel_rfl, by kernel_rfl⟩
  · exact ⟨Try.func178, by kernel_rfl, by kernel_rfl⟩
  · exact ⟨Try.func140, by kernel_rfl, by kernel_rfl⟩
  · exact ⟨Try.func141, by kernel_rfl, by kernel_rfl⟩
  · exact ⟨Try.func77, by kernel_rfl, by kernel_rfl⟩
  · exact ⟨Try.func142, by kernel_rfl, by kernel_rfl⟩
  · exact ⟨Try.func143, by kernel_rfl, by kernel_rfl⟩
  · exact ⟨Try.func78, by kernel_rfl, by kernel_rfl⟩
  · exact ⟨Try.func14, by kernel_rfl, by kernel_rfl⟩

noncomputable def E : Env := { tys := tys, fns := fns, own := [], keep := [(136, [(4, [0, 3]), (9, [0, 3, 4])]), (137, [(2, [0, 1, 5])]), (138, [(3, [0, 3, 4])]), (139, [(3, [0, 3, 4])]), (179, [(2, [0, 1, 7, 8])]), (140, [(4, [1, 28, 29, 30])]), (142, [(4, [0, 1, 5])]), (143, [(4, [0, 1, 5])])], handN := [], scal := [14, 74, 75, 77, 78, 79, 80, 134, 135, 140, 141, 142, 143, 175, 176, 177, 178, 179], pur := [76, 138, 139] }

theorem ok : EnvOK E Try.prog := ⟨look_all tys_ok, look_all fns_ok, by kernel_rfl, look_all (l := tys) (Q := fun _ (i : TI) => i.zero.cells.size = i.size) (by
  intro p hp
  simp only [tys, List.mem_cons, List.not_mem_nil, or_false] at hp
  rcases hp with rfl | rfl | rfl | rfl | rfl | rfl | rfl | rfl <;> rfl)⟩

end Go.Proofs.Ytgcdkchdgeppdaa.T12

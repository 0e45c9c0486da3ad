/- The engine's tables for laws.FnExactEraseSpread, and that they are the program's own; conditions: none. -/

import Derived.Test.YthpcnbjpdcpfbaaEp
import Derived.Test.YthpcnbjpdcpfbaaChecked
import Derived.KernelRfl
namespace Go.Proofs.Ythpcnbjpdcpfbaa.T18
open Go.Proofs.YthpcnbjpdcpfbaaE

noncomputable def tys : List (Nat × TI) := [(2, ⟨(Go.TypeDesc.int Go.IntKind.i64), 1, 8, (.int .i64 0)⟩),
  (3, ⟨(Go.TypeDesc.int Go.IntKind.i64), 1, 8, (.int .i64 0)⟩),
  (4, ⟨Go.TypeDesc.bool, 1, 1, (.bool false)⟩),
  (9, ⟨Go.TypeDesc.string, 1, 16, (.string ⟨#[]⟩)⟩),
  (51, ⟨(Go.TypeDesc.struct #[{ name := "Dies", type := 2, offset := 0, embedded := Bool.false, tag := "", pkgPath := "", byteOffset := 0 }, { name := "Blocks", type := 2, offset := 1, embedded := Bool.false, tag := "", pkgPath := "", byteOffset := 8 }, { name := "Pages", type := 2, offset := 2, embedded := Bool.false, tag := "", pkgPath := "", byteOffset := 16 }]), 3, 24, (.agg #[(.int .i64 0), (.int .i64 0), (.int .i64 0)])⟩),
  (52, ⟨(Go.TypeDesc.slice 184), 1, 24, (.slice none 0 0)⟩),
  (54, ⟨(Go.TypeDesc.struct #[{ name := "Geo", type := 51, offset := 0, embedded := Bool.false, tag := "", pkgPath := "", byteOffset := 0 }, { name := "Blocks", type := 52, offset := 3, embedded := Bool.false, tag := "", pkgPath := "", byteOffset := 24 }, { name := "Fuse", type := 2, offset := 4, embedded := Bool.false, tag := "", pkgPath := "", byteOffset := 48 }, { name := "Keep", type := 2, offset := 5, embedded := Bool.false, tag := "", pkgPath := "", byteOffset := 56 }, { name := "Off", type := 4, offset := 6, embedded := Bool.false, tag := "", pkgPath := "", byteOffset := 64 }, { name := "Ops", type := 2, offset := 7, embedded := Bool.false, tag := "", pkgPath := "", byteOffset := 72 }]), 8, 80, (.agg #[(.int .i64 0), (.int .i64 0), (.int .i64 0), (.slice none 0 0), (.int .i64 0), (.int .i64 0), (.bool false), (.int .i64 0)])⟩),
  (57, ⟨(Go.TypeDesc.struct #[{ name := "Dies", type := 2, offset := 0, embedded := Bool.false, tag := "", pkgPath := "", byteOffset := 0 }, { name := "Blocks", type := 2, offset := 1, embedded := Bool.false, tag := "", pkgPath := "", byteOffset := 8 }, { name := "Pages", type := 2, offset := 2, embedded := Bool.false, tag := "", pkgPath := "", byteOffset := 16 }]), 3, 24, (.agg #[(.int .i64 0), (.int .i64 0), (.int .i64 0)])⟩),
  (58, ⟨(Go.TypeDesc.slice 135), 1, 24, (.slice none 0 0)⟩),
  (60, ⟨(Go.TypeDesc.struct #[{ name := "Geo", type := 57, offset := 0, embedded := Bool.false, tag := "", pkgPath := "", byteOffset := 0 }, { name := "Blocks", type := 58, offset := 3, embedded := Bool.false, tag := "", pkgPath := "", byteOffset := 24 }, { name := "Fuse", type := 2, offset := 4, embedded := Bool.false, tag := "", pkgPath := "", byteOffset := 48 }, { name := "Keep", type := 2, offset := 5, embedded := Bool.false, tag := "", pkgPath := "", byteOffset := 56 }, { name := "Off", type := 4, offset := 6, embedded := Bool.false, tag := "", pkgPath := "", byteOffset := 64 }, { name := "Ops", type := 2, offset := 7, embedded := Bool.false, tag := "", pkgPath := "", byteOffset := 72 }]), 8, 80, (.agg #[(.int .i64 0), (.int .i64 0), (.int .i64 0), (.slice none 0 0), (.int .i64 0), (.int .i64 0), (.bool false), (.int .i64 0)])⟩),
  (96, ⟨(Go.TypeDesc.slice 9), 1, 24, (.slice none 0 0)⟩),
  (135, ⟨(Go.TypeDesc.struct #[{ name := "Erases", type := 2, offset := 0, embedded := Bool.false, tag := "", pkgPath := "", byteOffset := 0 }, { name := "Next", type := 2, offset := 1, embedded := Bool.false, tag := "", pkgPath := "", byteOffset := 8 }, { name := "Bad", type := 4, offset := 2, embedded := Bool.false, tag := "", pkgPath := "", byteOffset := 16 }, { name := "Pages", type := 96, offset := 3, embedded := Bool.false, tag := "", pkgPath := "", byteOffset := 24 }]), 4, 48, (.agg #[(.int .i64 0), (.int .i64 0), (.bool false), (.slice none 0 0)])⟩),
  (184, ⟨(Go.TypeDesc.struct #[{ name := "Erases", type := 2, offset := 0, embedded := Bool.false, tag := "", pkgPath := "", byteOffset := 0 }, { name := "Next", type := 2, offset := 1, embedded := Bool.false, tag := "", pkgPath := "", byteOffset := 8 }, { name := "Bad", type := 4, offset := 2, embedded := Bool.false, tag := "", pkgPath := "", byteOffset := 16 }, { name := "Pages", type := 96, offset := 3, embedded := Bool.false, tag := "", pkgPath := "", byteOffset := 24 }]), 4, 48, (.agg #[(.int .i64 0), (.int .i64 0), (.bool false), (.slice none 0 0)])⟩),
  (188, ⟨(Go.TypeDesc.func #[135] #[4] Bool.false), 1, 8, .nilFunc⟩)]

theorem tys_ok : ∀ p ∈ tys, ∃ ti, Try.prog.info? p.1 = some ti ∧ Try.prog.underlying p.1 = some p.2.desc ∧ ti.size = p.2.size ∧ ti.bytes = p.2.bytes ∧ ti.zero = some p.2.zero := by
  intro p hp
  simp only [tys, List.mem_cons, List.not_mem_nil, or_false] at hp
  rcases hp with rfl | rfl | rfl | rfl | rfl | rfl | rfl | rfl | rfl | rfl | rfl | rfl | rfl | rfl
  · exact info_of (by kernel_rfl) Try.underlying2
  · exact info_of (by kernel_rfl) Try.underlying3
  · exact info_of (by kernel_rfl) Try.underlying4
  · exact info_of (by kernel_rfl) Try.underlying9
  · exact info_of (by kernel_rfl) Try.underlying51
  · exact info_of (by kernel_rfl) Try.underlying52
  · exact info_of (by kernel_rfl) Try.underlying54
  · exact info_of (by kernel_rfl) Try.underlying57
  · exact info_of (by kernel_rfl) Try.underlying58
  · exact info_of (by kernel_rfl) Try.underlying60
  · exact info_of (by kernel_rfl) Try.underlying96
  · exact info_of (by kernel_rfl) Try.underlying135
  · exact info_of (by kernel_rfl) Try.underlying184
  · exact info_of (by kernel_rfl) Try.underlying188

noncomputable def fns : List (Nat × Func) := [(191, Try.f191), (156, Try.f156), (99, Try.f99), (36, Try.f36), (101, Try.f101), (192, Try.f192), (158, Try.f158), (102, Try.f102), (38, Try.f38), (104, Try.f104), (194, Try.f194), (163, Try.f163), (105, Try.f105), (40, Try.f40), (92, Try.f92), (107, Try.f107), (157, Try.f157), (100, Try.f100), (46, Try.f46), (96, Try.f96), (110, Try.f110), (159, Try.f159), (193, Try.f193), (160, Try.f160), (162, Try.f162), (161, Try.f161), (103, Try.f103), (47, Try.f47), (8, Try.f8)]

theorem fns_ok : ∀ p ∈ fns, Try.prog.funcs[p.1]? = some p.2 ∧ (p.2.name == "runtime.NumGoroutine") = false ∧ drawsF [8, 36, 40, 46, 47, 92, 96, 99, 100, 101, 103, 104, 105, 107, 110, 156, 157, 159, 162, 163, 191, 194] [38, 102, 158, 192] p.2 = true := by
  intro p hp
  simp only [fns, List.mem_cons, List.not_mem_nil, or_false] at hp
  rcases hp with rfl | rfl | rfl | rfl | rfl | rfl | rfl | rfl | rfl | rfl | rfl | rfl | rfl | rfl | rfl | rfl | rfl | rfl | rfl | rfl | rfl | rfl | rfl | rfl | rfl | rfl | rfl | rfl | rfl
  · exact ⟨Try.func191, by kernel_rfl, by kernel_rfl⟩
  · exact ⟨Try.func156, by kernel_rfl, by kernel_rfl⟩
  · exact ⟨Try.func99, by kernel_rfl, by kernel_rfl⟩
  · exact ⟨Try.func36, by kernel_rfl, by kernel_rfl⟩
  · exact ⟨Try.func101, by kernel_rfl, by kernel_rfl⟩
  · exact ⟨Try.func192, by kernel_rfl, by kernel_rfl⟩
  · exact ⟨Try.func158, by kernel_rfl, by kernel_rfl⟩
  · exact ⟨Try.func102, by kernel_rfl, by kernel_rfl⟩
  · exact ⟨Try.func38, by kernel_rfl, by kernel_rfl⟩
  · exact ⟨Try.func104, by kernel_rfl, by kernel_rfl⟩
  · exact ⟨Try.func194, by kernel_rfl, by kernel_rfl⟩
  · exact ⟨Try.func163, by kernel_rfl, by kernel_rfl⟩
  · exact ⟨Try.func105, by kernel_rfl, by kernel_rfl⟩
  · exact ⟨Try.func40, by kernel_rfl, by kernel_rfl⟩
  · exact ⟨Try.func92, by kernel_rfl, by kernel_rfl⟩
  · exact ⟨Try.func107, by kernel_rfl, by kernel_rfl⟩
  · exact ⟨Try.func157, by kernel_rfl, by kernel_rfl⟩
  · exact ⟨Try.func100, by kernel_rfl, by kernel_rfl⟩
  · exact ⟨Try.func46, by kernel_rfl, by kernel_rfl⟩
  · exact ⟨Try.func96, by kernel_rfl, by kernel_rfl⟩
  · exact ⟨Try.func110, by kernel_rfl, by kernel_rfl⟩
  · exact ⟨Try.func159, by kernel_rfl, by kernel_rfl⟩
  · exact ⟨Try.func193, by kernel_rfl, by kernel_rfl⟩
  · exact ⟨Try.func160, by kernel_rfl, by kernel_rfl⟩
  · exact ⟨Try.func162, by kernel_rfl, by kernel_rfl⟩
  · exact ⟨Try.func161, by kernel_rfl, by kernel_rfl⟩
  · exact ⟨Try.func103, by kernel_rfl, by kernel_rfl⟩
  · exact ⟨Try.func47, by kernel_rfl, by kernel_rfl⟩
  · exact ⟨Try.func8, by kernel_rfl, by kernel_rfl⟩

noncomputable def E : Env := { tys := tys, fns := fns, own := [], keep := [(191, [(5, [0, 1, 5])]), (99, [(5, [0, 1, 5])]), (192, [(3, [0, 3, 4])]), (102, [(3, [0, 3, 4])]), (194, [(4, [0, 1, 5])]), (105, [(4, [0, 1, 5])]), (157, [(4, [1, 2, 5])]), (100, [(4, [1, 3])]), (46, [(7, [1, 4, 5, 6, 7])]), (193, [(2, [0, 1, 7, 8])]), (162, [(4, [3, 28, 29, 30])]), (47, [(6, [4, 5, 6, 13, 14, 15])])], handN := [], scal := [8, 36, 40, 46, 47, 92, 96, 99, 100, 101, 103, 104, 105, 107, 110, 156, 157, 159, 162, 163, 191, 194], pur := [38, 102, 158, 192] }

theorem ok : EnvOK E Try.prog := ⟨look_all tys_ok, look_all fns_ok, by kernel_rfl, look_all (l := tys) (Q := fun _ (i : TI) => i.zero.cells.size = i.size) (by
  intro p hp
  simp only [tys, List.mem_cons, List.not_mem_nil, or_false] at hp
  rcases hp with rfl | rfl | rfl | rfl | rfl | rfl | rfl | rfl | rfl | rfl | rfl | rfl | rfl | rfl <;> rfl)⟩

end Go.Proofs.Ythpcnbjpdcpfbaa.T18

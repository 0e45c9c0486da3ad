/- The engine's tables for laws.FnExactValidTrial, and that they are the program's own; conditions: none. -/

import Derived.Test.YthpcnbjpdcpfbaaEp
import Derived.Test.YthpcnbjpdcpfbaaChecked
import Derived.KernelRfl
namespace Go.Proofs.Ythpcnbjpdcpfbaa.T17
open Go.Proofs.YthpcnbjpdcpfbaaE

noncomputable def tys : List (Nat × TI) := [(2, ⟨(Go.TypeDesc.int Go.IntKind.i64), 1, 8, (.int .i64 0)⟩),
  (3, ⟨(Go.TypeDesc.int Go.IntKind.i64), 1, 8, (.int .i64 0)⟩),
  (4, ⟨Go.TypeDesc.bool, 1, 1, (.bool false)⟩),
  (9, ⟨Go.TypeDesc.string, 1, 16, (.string ⟨#[]⟩)⟩),
  (51, ⟨(Go.TypeDesc.struct #[{ name := "Dies", type := 2, offset := 0, embedded := Bool.false, tag := "", pkgPath := "", byteOffset := 0 }, { name := "Blocks", type := 2, offset := 1, embedded := Bool.false, tag := "", pkgPath := "", byteOffset := 8 }, { name := "Pages", type := 2, offset := 2, embedded := Bool.false, tag := "", pkgPath := "", byteOffset := 16 }]), 3, 24, (.agg #[(.int .i64 0), (.int .i64 0), (.int .i64 0)])⟩),
  (57, ⟨(Go.TypeDesc.struct #[{ name := "Dies", type := 2, offset := 0, embedded := Bool.false, tag := "", pkgPath := "", byteOffset := 0 }, { name := "Blocks", type := 2, offset := 1, embedded := Bool.false, tag := "", pkgPath := "", byteOffset := 8 }, { name := "Pages", type := 2, offset := 2, embedded := Bool.false, tag := "", pkgPath := "", byteOffset := 16 }]), 3, 24, (.agg #[(.int .i64 0), (.int .i64 0), (.int .i64 0)])⟩),
  (64, ⟨(Go.TypeDesc.slice 193), 1, 24, (.slice none 0 0)⟩),
  (66, ⟨(Go.TypeDesc.struct #[{ name := "Geo", type := 51, offset := 0, embedded := Bool.false, tag := "", pkgPath := "", byteOffset := 0 }, { name := "Zones", type := 2, offset := 3, embedded := Bool.false, tag := "", pkgPath := "", byteOffset := 24 }, { name := "Acts", type := 64, offset := 4, embedded := Bool.false, tag := "", pkgPath := "", byteOffset := 32 }]), 5, 56, (.agg #[(.int .i64 0), (.int .i64 0), (.int .i64 0), (.int .i64 0), (.slice none 0 0)])⟩),
  (69, ⟨(Go.TypeDesc.slice 145), 1, 24, (.slice none 0 0)⟩),
  (71, ⟨(Go.TypeDesc.struct #[{ name := "Geo", type := 57, offset := 0, embedded := Bool.false, tag := "", pkgPath := "", byteOffset := 0 }, { name := "Zones", type := 2, offset := 3, embedded := Bool.false, tag := "", pkgPath := "", byteOffset := 24 }, { name := "Acts", type := 69, offset := 4, embedded := Bool.false, tag := "", pkgPath := "", byteOffset := 32 }]), 5, 56, (.agg #[(.int .i64 0), (.int .i64 0), (.int .i64 0), (.int .i64 0), (.slice none 0 0)])⟩),
  (142, ⟨(Go.TypeDesc.func #[145] #[4] Bool.false), 1, 8, .nilFunc⟩),
  (143, ⟨(Go.TypeDesc.slice 251), 1, 24, (.slice none 0 0)⟩),
  (145, ⟨(Go.TypeDesc.struct #[{ name := "Kind", type := 2, offset := 0, embedded := Bool.false, tag := "", pkgPath := "", byteOffset := 0 }, { name := "Batch", type := 143, offset := 1, embedded := Bool.false, tag := "", pkgPath := "", byteOffset := 8 }, { name := "Seq", type := 2, offset := 2, embedded := Bool.false, tag := "", pkgPath := "", byteOffset := 32 }]), 3, 40, (.agg #[(.int .i64 0), (.slice none 0 0), (.int .i64 0)])⟩),
  (191, ⟨(Go.TypeDesc.slice 250), 1, 24, (.slice none 0 0)⟩),
  (193, ⟨(Go.TypeDesc.struct #[{ name := "Kind", type := 2, offset := 0, embedded := Bool.false, tag := "", pkgPath := "", byteOffset := 0 }, { name := "Batch", type := 191, offset := 1, embedded := Bool.false, tag := "", pkgPath := "", byteOffset := 8 }, { name := "Seq", type := 2, offset := 2, embedded := Bool.false, tag := "", pkgPath := "", byteOffset := 32 }]), 3, 40, (.agg #[(.int .i64 0), (.slice none 0 0), (.int .i64 0)])⟩),
  (250, ⟨(Go.TypeDesc.struct #[{ name := "Key", type := 9, offset := 0, embedded := Bool.false, tag := "", pkgPath := "", byteOffset := 0 }, { name := "Seq", type := 2, offset := 1, embedded := Bool.false, tag := "", pkgPath := "", byteOffset := 16 }, { name := "Kind", type := 2, offset := 2, embedded := Bool.false, tag := "", pkgPath := "", byteOffset := 24 }, { name := "Value", type := 9, offset := 3, embedded := Bool.false, tag := "", pkgPath := "", byteOffset := 32 }, { name := "End", type := 9, offset := 4, embedded := Bool.false, tag := "", pkgPath := "", byteOffset := 48 }]), 5, 64, (.agg #[(.string ⟨#[]⟩), (.int .i64 0), (.int .i64 0), (.string ⟨#[]⟩), (.string ⟨#[]⟩)])⟩),
  (251, ⟨(Go.TypeDesc.struct #[{ name := "Key", type := 9, offset := 0, embedded := Bool.false, tag := "", pkgPath := "", byteOffset := 0 }, { name := "Seq", type := 2, offset := 1, embedded := Bool.false, tag := "", pkgPath := "", byteOffset := 16 }, { name := "Kind", type := 2, offset := 2, embedded := Bool.false, tag := "", pkgPath := "", byteOffset := 24 }, { name := "Value", type := 9, offset := 3, embedded := Bool.false, tag := "", pkgPath := "", byteOffset := 32 }, { name := "End", type := 9, offset := 4, embedded := Bool.false, tag := "", pkgPath := "", byteOffset := 48 }]), 5, 64, (.agg #[(.string ⟨#[]⟩), (.int .i64 0), (.int .i64 0), (.string ⟨#[]⟩), (.string ⟨#[]⟩)])⟩)]

theorem tys_ok : ∀ p ∈ tys, ∃ ti, Try.prog.info? p.1 = some ti ∧ Try.prog.underlying p.1 = some p.2.desc ∧ ti.size = p.2.size ∧ ti.bytes = p.2.bytes ∧ ti.zero = some p.2.zero := by
  intro p hp
  simp only [tys, List.mem_cons, List.not_mem_nil, or_false] at hp
  rcases hp with rfl | rfl | rfl | rfl | rfl | rfl | rfl | rfl | rfl | rfl | rfl | rfl | rfl | rfl | rfl | rfl | rfl
  · exact info_of (by kernel_rfl) Try.underlying2
  · exact info_of (by kernel_rfl) Try.underlying3
  · exact info_of (by kernel_rfl) Try.underlying4
  · exact info_of (by kernel_rfl) Try.underlying9
  · exact info_of (by kernel_rfl) Try.underlying51
  · exact info_of (by kernel_rfl) Try.underlying57
  · exact info_of (by kernel_rfl) Try.underlying64
  · exact info_of (by kernel_rfl) Try.underlying66
  · exact info_of (by kernel_rfl) Try.underlying69
  · exact info_of (by kernel_rfl) Try.underlying71
  · exact info_of (by kernel_rfl) Try.underlying142
  · exact info_of (by kernel_rfl) Try.underlying143
  · exact info_of (by kernel_rfl) Try.underlying145
  · exact info_of (by kernel_rfl) Try.underlying191
  · exact info_of (by kernel_rfl) Try.underlying193
  · exact info_of (by kernel_rfl) Try.underlying250
  · exact info_of (by kernel_rfl) Try.underlying251

noncomputable def fns : List (Nat × Func) := [(214, Try.f214), (195, Try.f195), (164, Try.f164), (106, Try.f106), (41, Try.f41), (92, Try.f92), (107, Try.f107), (108, Try.f108), (42, Try.f42), (101, Try.f101), (215, Try.f215), (196, Try.f196), (165, Try.f165), (109, Try.f109), (43, Try.f43), (96, Try.f96), (110, Try.f110), (166, Try.f166), (111, Try.f111), (113, Try.f113), (112, Try.f112), (44, Try.f44), (104, Try.f104), (216, Try.f216), (197, Try.f197), (167, Try.f167), (114, Try.f114), (45, Try.f45), (7, Try.f7)]

theorem fns_ok : ∀ p ∈ fns, Try.prog.funcs[p.1]? = some p.2 ∧ (p.2.name == "runtime.NumGoroutine") = false ∧ drawsF [7, 41, 42, 44, 45, 92, 96, 101, 104, 106, 107, 108, 110, 112, 113, 114, 164, 167, 195, 197, 214, 215, 216] [43, 109, 165, 196] p.2 = true := by
  intro p hp
  simp only [fns, List.mem_cons, List.not_mem_nil, or_false] at hp
  rcases hp with rfl | rfl | rfl | rfl | rfl | rfl | rfl | rfl | rfl | rfl | rfl | rfl | rfl | rfl | rfl | rfl | rfl | rfl | rfl | rfl | rfl | rfl | rfl | rfl | rfl | rfl | rfl | rfl | rfl
  · exact ⟨Try.func214, by kernel_rfl, by kernel_rfl⟩
  · exact ⟨Try.func195, by kernel_rfl, by kernel_rfl⟩
  · exact ⟨Try.func164, by kernel_rfl, by kernel_rfl⟩
  · exact ⟨Try.func106, by kernel_rfl, by kernel_rfl⟩
  · exact ⟨Try.func41, by kernel_rfl, by kernel_rfl⟩
  · exact ⟨Try.func92, by kernel_rfl, by kernel_rfl⟩
  · exact ⟨Try.func107, by kernel_rfl, by kernel_rfl⟩
  · exact ⟨Try.func108, by kernel_rfl, by kernel_rfl⟩
  · exact ⟨Try.func42, by kernel_rfl, by kernel_rfl⟩
  · exact ⟨Try.func101, by kernel_rfl, by kernel_rfl⟩
  · exact ⟨Try.func215, by kernel_rfl, by kernel_rfl⟩
  · exact ⟨Try.func196, by kernel_rfl, by kernel_rfl⟩
  · exact ⟨Try.func165, by kernel_rfl, by kernel_rfl⟩
  · exact ⟨Try.func109, by kernel_rfl, by kernel_rfl⟩
  · exact ⟨Try.func43, by kernel_rfl, by kernel_rfl⟩
  · exact ⟨Try.func96, by kernel_rfl, by kernel_rfl⟩
  · exact ⟨Try.func110, by kernel_rfl, by kernel_rfl⟩
  · exact ⟨Try.func166, by kernel_rfl, by kernel_rfl⟩
  · exact ⟨Try.func111, by kernel_rfl, by kernel_rfl⟩
  · exact ⟨Try.func113, by kernel_rfl, by kernel_rfl⟩
  · exact ⟨Try.func112, by kernel_rfl, by kernel_rfl⟩
  · exact ⟨Try.func44, by kernel_rfl, by kernel_rfl⟩
  · exact ⟨Try.func104, by kernel_rfl, by kernel_rfl⟩
  · exact ⟨Try.func216, by kernel_rfl, by kernel_rfl⟩
  · exact ⟨Try.func197, by kernel_rfl, by kernel_rfl⟩
  · exact ⟨Try.func167, by kernel_rfl, by kernel_rfl⟩
  · exact ⟨Try.func114, by kernel_rfl, by kernel_rfl⟩
  · exact ⟨Try.func45, by kernel_rfl, by kernel_rfl⟩
  · exact ⟨Try.func7, by kernel_rfl, by kernel_rfl⟩

noncomputable def E : Env := { tys := tys, fns := fns, own := [], keep := [(195, [(5, [0, 1, 5])]), (106, [(5, [0, 1, 5])]), (42, [(4, [1, 3])]), (196, [(3, [0, 3, 4])]), (109, [(3, [0, 3, 4])]), (166, [(2, [0, 1, 7, 8])]), (197, [(4, [0, 1, 5])]), (114, [(4, [0, 1, 5])])], handN := [], scal := [7, 41, 42, 44, 45, 92, 96, 101, 104, 106, 107, 108, 110, 112, 113, 114, 164, 167, 195, 197, 214, 215, 216], pur := [43, 109, 165, 196] }

theorem ok : EnvOK E Try.prog := ⟨look_all tys_ok, look_all fns_ok, by kernel_rfl, look_all (l := tys) (Q := fun _ (i : TI) => i.zero.cells.size = i.size) (by
  intro p hp
  simp only [tys, List.mem_cons, List.not_mem_nil, or_false] at hp
  rcases hp with rfl | rfl | rfl | rfl | rfl | rfl | rfl | rfl | rfl | rfl | rfl | rfl | rfl | rfl | rfl | rfl | rfl <;> rfl)⟩

end Go.Proofs.Ythpcnbjpdcpfbaa.T17

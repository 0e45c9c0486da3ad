/- The engine's tables for laws.FnExactValidDbAct, and that they are the program's own; conditions: none. -/

import Derived.Test.YtgcdkchdgeppdaaEp
import Derived.Test.YtgcdkchdgeppdaaChecked
import Derived.KernelRfl
namespace Go.Proofs.Ytgcdkchdgeppdaa.T07
open Go.Proofs.YtgcdkchdgeppdaaE

noncomputable def tys : List (Nat × TI) := [(2, ⟨(Go.TypeDesc.int Go.IntKind.i64), 1, 8, (.int .i64 0)⟩),
  (3, ⟨(Go.TypeDesc.int Go.IntKind.i64), 1, 8, (.int .i64 0)⟩),
  (4, ⟨Go.TypeDesc.bool, 1, 1, (.bool false)⟩),
  (9, ⟨Go.TypeDesc.string, 1, 16, (.string ⟨#[]⟩)⟩),
  (54, ⟨(Go.TypeDesc.slice 171), 1, 24, (.slice none 0 0)⟩),
  (56, ⟨(Go.TypeDesc.struct #[{ name := "Kind", type := 2, offset := 0, embedded := Bool.false, tag := "", pkgPath := "", byteOffset := 0 }, { name := "Batch", type := 54, offset := 1, embedded := Bool.false, tag := "", pkgPath := "", byteOffset := 8 }, { name := "Seq", type := 2, offset := 2, embedded := Bool.false, tag := "", pkgPath := "", byteOffset := 32 }]), 3, 40, (.agg #[(.int .i64 0), (.slice none 0 0), (.int .i64 0)])⟩),
  (59, ⟨(Go.TypeDesc.slice 70), 1, 24, (.slice none 0 0)⟩),
  (61, ⟨(Go.TypeDesc.struct #[{ name := "Kind", type := 2, offset := 0, embedded := Bool.false, tag := "", pkgPath := "", byteOffset := 0 }, { name := "Batch", type := 59, offset := 1, embedded := Bool.false, tag := "", pkgPath := "", byteOffset := 8 }, { name := "Seq", type := 2, offset := 2, embedded := Bool.false, tag := "", pkgPath := "", byteOffset := 32 }]), 3, 40, (.agg #[(.int .i64 0), (.slice none 0 0), (.int .i64 0)])⟩),
  (70, ⟨(Go.TypeDesc.struct #[{ name := "Key", type := 9, offset := 0, embedded := Bool.false, tag := "", pkgPath := "", byteOffset := 0 }, { name := "Seq", type := 2, offset := 1, embedded := Bool.false, tag := "", pkgPath := "", byteOffset := 16 }, { name := "Kind", type := 2, offset := 2, embedded := Bool.false, tag := "", pkgPath := "", byteOffset := 24 }, { name := "Value", type := 9, offset := 3, embedded := Bool.false, tag := "", pkgPath := "", byteOffset := 32 }, { name := "End", type := 9, offset := 4, embedded := Bool.false, tag := "", pkgPath := "", byteOffset := 48 }]), 5, 64, (.agg #[(.string ⟨#[]⟩), (.int .i64 0), (.int .i64 0), (.string ⟨#[]⟩), (.string ⟨#[]⟩)])⟩),
  (171, ⟨(Go.TypeDesc.struct #[{ name := "Key", type := 9, offset := 0, embedded := Bool.false, tag := "", pkgPath := "", byteOffset := 0 }, { name := "Seq", type := 2, offset := 1, embedded := Bool.false, tag := "", pkgPath := "", byteOffset := 16 }, { name := "Kind", type := 2, offset := 2, embedded := Bool.false, tag := "", pkgPath := "", byteOffset := 24 }, { name := "Value", type := 9, offset := 3, embedded := Bool.false, tag := "", pkgPath := "", byteOffset := 32 }, { name := "End", type := 9, offset := 4, embedded := Bool.false, tag := "", pkgPath := "", byteOffset := 48 }]), 5, 64, (.agg #[(.string ⟨#[]⟩), (.int .i64 0), (.int .i64 0), (.string ⟨#[]⟩), (.string ⟨#[]⟩)])⟩)]

theorem tys_ok : ∀ p ∈ tys, ∃ ti, Try.prog.info? p.1 = some ti ∧ Try.prog.underlying p.1 = some p.2.desc ∧ ti.size = p.2.size ∧ ti.bytes = p.2.bytes ∧ ti.zero = some p.2.zero := by
  intro p hp
  simp only [tys, List.mem_cons, List.not_mem_nil, or_false] at hp
  rcases hp with rfl | rfl | rfl | rfl | rfl | rfl | rfl | rfl | rfl | rfl
  · exact info_of (by kernel_rfl) Try.underlying2
  · exact info_of (by kernel_rfl) Try.underlying3
  · exact info_of (by kernel_rfl) Try.underlying4
  · exact info_of (by kernel_rfl) Try.underlying9
  · exact info_of (by kernel_rfl) Try.underlying54
  · exact info_of (by kernel_rfl) Try.underlying56
  · exact info_of (by kernel_rfl) Try.underlying59
  · exact info_of (by kernel_rfl) Try.underlying61
  · exact info_of (by kernel_rfl) Try.underlying70
  · exact info_of (by kernel_rfl) Try.underlying171

noncomputable def fns : List (Nat × Func) := [(147, Try.f147), (103, Try.f103), (39, Try.f39), (79, Try.f79), (40, Try.f40), (148, Try.f148), (104, Try.f104), (41, Try.f41), (80, Try.f80), (42, Try.f42), (149, Try.f149), (105, Try.f105), (43, Try.f43), (9, Try.f9)]

theorem fns_ok : ∀ p ∈ fns, Try.prog.funcs[p.1]? = some p.2 ∧ (p.2.name == "runtime.NumGoroutine") = false ∧ drawsF [9, 39, 40, 42, 43, 79, 80, 103, 105, 147, 148, 149] [41, 104] p.2 = true := by
  intro p hp
  simp only [fns, List.mem_cons, List.not_mem_nil, or_false] at hp
  rcases hp with rfl | rfl | rfl | rfl | rfl | rfl | rfl | rfl | rfl | rfl | rfl | rfl | rfl | rfl
  · exact ⟨Try.func147, by kernel_rfl, by kernel_rfl⟩
  · exact ⟨Try.func103, by kernel_rfl, by kernel_rfl⟩
  · exact ⟨Try.func39, by kernel_rfl, by kernel_rfl⟩
  · exact ⟨Try.func79, by kernel_rfl, by kernel_rfl⟩
  · exact ⟨Try.func40, by kernel_rfl, by kernel_rfl⟩
  · exact ⟨Try.func148, by kernel_rfl, by kernel_rfl⟩
  · exact ⟨Try.func104, by kernel_rfl, by kernel_rfl⟩
  · exact ⟨Try.func41, by kernel_rfl, by kernel_rfl⟩
  · exact ⟨Try.func80, by kernel_rfl, by kernel_rfl⟩
  · exact ⟨Try.func42, by kernel_rfl, by kernel_rfl⟩
  · exact ⟨Try.func149, by kernel_rfl, by kernel_rfl⟩
  · exact ⟨Try.func105, by kernel_rfl, by kernel_rfl⟩
  · exact ⟨Try.func43, by kernel_rfl, by kernel_rfl⟩
  · exact ⟨Try.func9, by kernel_rfl, by kernel_rfl⟩

noncomputable def E : Env := { tys := tys, fns := fns, own := [], keep := [(103, [(5, [0, 1, 5])]), (104, [(3, [0, 3, 4])]), (105, [(4, [0, 1, 5])])], handN := [], scal := [9, 39, 40, 42, 43, 79, 80, 103, 105, 147, 148, 149], pur := [41, 104] }

theorem ok : EnvOK E Try.prog := ⟨look_all tys_ok, look_all fns_ok, by kernel_rfl, look_all (l := tys) (Q := fun _ (i : TI) => i.zero.cells.size = i.size) (by
  intro p hp
  simp only [tys, List.mem_cons, List.not_mem_nil, or_false] at hp
  rcases hp with rfl | rfl | rfl | rfl | rfl | rfl | rfl | rfl | rfl | rfl <;> rfl)⟩

end Go.Proofs.Ytgcdkchdgeppdaa.T07

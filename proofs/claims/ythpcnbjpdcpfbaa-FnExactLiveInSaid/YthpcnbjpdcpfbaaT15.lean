/- The engine's tables for laws.FnExactLiveIn, and that they are the program's own; conditions: none. -/

import Derived.Test.YthpcnbjpdcpfbaaEp
import Derived.Test.YthpcnbjpdcpfbaaChecked
import Derived.KernelRfl
namespace Go.Proofs.Ythpcnbjpdcpfbaa.T15
open Go.Proofs.YthpcnbjpdcpfbaaE

noncomputable def tys : List (Nat × TI) := [(2, ⟨(Go.TypeDesc.int Go.IntKind.i64), 1, 8, (.int .i64 0)⟩),
  (3, ⟨(Go.TypeDesc.int Go.IntKind.i64), 1, 8, (.int .i64 0)⟩),
  (4, ⟨Go.TypeDesc.bool, 1, 1, (.bool false)⟩),
  (22, ⟨(Go.TypeDesc.slice 2), 1, 24, (.slice none 0 0)⟩),
  (23, ⟨(Go.TypeDesc.slice 4), 1, 24, (.slice none 0 0)⟩),
  (25, ⟨(Go.TypeDesc.struct #[{ name := "Blocks", type := 2, offset := 0, embedded := Bool.false, tag := "", pkgPath := "", byteOffset := 0 }, { name := "Pages", type := 2, offset := 1, embedded := Bool.false, tag := "", pkgPath := "", byteOffset := 8 }, { name := "Map", type := 22, offset := 2, embedded := Bool.false, tag := "", pkgPath := "", byteOffset := 16 }, { name := "Trimmed", type := 23, offset := 3, embedded := Bool.false, tag := "", pkgPath := "", byteOffset := 40 }]), 4, 64, (.agg #[(.int .i64 0), (.int .i64 0), (.slice none 0 0), (.slice none 0 0)])⟩),
  (28, ⟨(Go.TypeDesc.struct #[{ name := "Blocks", type := 2, offset := 0, embedded := Bool.false, tag := "", pkgPath := "", byteOffset := 0 }, { name := "Pages", type := 2, offset := 1, embedded := Bool.false, tag := "", pkgPath := "", byteOffset := 8 }, { name := "Map", type := 22, offset := 2, embedded := Bool.false, tag := "", pkgPath := "", byteOffset := 16 }, { name := "Trimmed", type := 23, offset := 3, embedded := Bool.false, tag := "", pkgPath := "", byteOffset := 40 }]), 4, 64, (.agg #[(.int .i64 0), (.int .i64 0), (.slice none 0 0), (.slice none 0 0)])⟩),
  (117, ⟨(Go.TypeDesc.pointer 28), 1, 8, (.pointer none)⟩)]

theorem tys_ok : ∀ p ∈ tys, ∃ ti, Try.prog.info? p.1 = some ti ∧ Try.prog.underlying p.1 = some p.2.desc ∧ ti.size = p.2.size ∧ ti.bytes = p.2.bytes ∧ ti.zero = some p.2.zero := by
  intro p hp
  simp only [tys, List.mem_cons, List.not_mem_nil, or_false] at hp
  rcases hp with rfl | rfl | rfl | rfl | rfl | rfl | rfl | rfl
  · exact info_of (by kernel_rfl) Try.underlying2
  · exact info_of (by kernel_rfl) Try.underlying3
  · exact info_of (by kernel_rfl) Try.underlying4
  · exact info_of (by kernel_rfl) Try.underlying22
  · exact info_of (by kernel_rfl) Try.underlying23
  · exact info_of (by kernel_rfl) Try.underlying25
  · exact info_of (by kernel_rfl) Try.underlying28
  · exact info_of (by kernel_rfl) Try.underlying117

noncomputable def fns : List (Nat × Func) := [(81, Try.f81), (82, Try.f82), (15, Try.f15), (60, Try.f60), (61, Try.f61), (17, Try.f17), (32, Try.f32), (64, Try.f64), (19, Try.f19), (92, Try.f92), (145, Try.f145), (83, Try.f83), (121, Try.f121), (84, Try.f84), (30, Try.f30), (96, Try.f96), (118, Try.f118), (154, Try.f154), (119, Try.f119), (155, Try.f155), (97, Try.f97), (123, Try.f123), (98, Try.f98), (31, Try.f31), (34, Try.f34), (65, Try.f65), (33, Try.f33), (35, Try.f35), (5, Try.f5)]

theorem fns_ok : ∀ p ∈ fns, Try.prog.funcs[p.1]? = some p.2 ∧ (p.2.name == "runtime.NumGoroutine") = false ∧ drawsF [5, 15, 19, 32, 35, 64, 81, 82, 92, 96, 97, 118, 119, 123, 145, 154, 155] [17, 30, 31, 60, 61, 98] p.2 = true := by
  intro p hp
  simp only [fns, List.mem_cons, List.not_mem_nil, or_false] at hp
  rcases hp with rfl | rfl | rfl | rfl | rfl | rfl | rfl | rfl | rfl | rfl | rfl | rfl | rfl | rfl | rfl | rfl | rfl | rfl | rfl | rfl | rfl | rfl | rfl | rfl | rfl | rfl | rfl | rfl | rfl
  · exact ⟨Try.func81, by kernel_rfl, by kernel_rfl⟩
  · exact ⟨Try.func82, by kernel_rfl, by kernel_rfl⟩
  · exact ⟨Try.func15, by kernel_rfl, by kernel_rfl⟩
  · exact ⟨Try.func60, by kernel_rfl, by kernel_rfl⟩
  · exact ⟨Try.func61, by kernel_rfl, by kernel_rfl⟩
  · exact ⟨Try.func17, by kernel_rfl, by kernel_rfl⟩
  · exact ⟨Try.func32, by kernel_rfl, by kernel_rfl⟩
  · exact ⟨Try.func64, by kernel_rfl, by kernel_rfl⟩
  · exact ⟨Try.func19, by kernel_rfl, by kernel_rfl⟩
  · exact ⟨Try.func92, by kernel_rfl, by kernel_rfl⟩
  · exact ⟨Try.func145, by kernel_rfl, by kernel_rfl⟩
  · exact ⟨Try.func83, by kernel_rfl, by kernel_rfl⟩
  · exact ⟨Try.func121, by kernel_rfl, by kernel_rfl⟩
  · exact ⟨Try.func84, by kernel_rfl, by kernel_rfl⟩
  · exact ⟨Try.func30, by kernel_rfl, by kernel_rfl⟩
  · exact ⟨Try.func96, by kernel_rfl, by kernel_rfl⟩
  · exact ⟨Try.func118, by kernel_rfl, by kernel_rfl⟩
  · exact ⟨Try.func154, by kernel_rfl, by kernel_rfl⟩
  · exact ⟨Try.func119, by kernel_rfl, by kernel_rfl⟩
  · exact ⟨Try.func155, by kernel_rfl, by kernel_rfl⟩
  · exact ⟨Try.func97, by kernel_rfl, by kernel_rfl⟩
  · exact ⟨Try.func123, by kernel_rfl, by kernel_rfl⟩
  · exact ⟨Try.func98, by kernel_rfl, by kernel_rfl⟩
  · exact ⟨Try.func31, by kernel_rfl, by kernel_rfl⟩
  · exact ⟨Try.func34, by kernel_rfl, by kernel_rfl⟩
  · exact ⟨Try.func65, by kernel_rfl, by kernel_rfl⟩
  · exact ⟨Try.func33, by kernel_rfl, by kernel_rfl⟩
  · exact ⟨Try.func35, by kernel_rfl, by kernel_rfl⟩
  · exact ⟨Try.func5, by kernel_rfl, by kernel_rfl⟩

noncomputable def E : Env := { tys := tys, fns := fns, own := [60, 61, 17, 31, 98], keep := [(60, [(3, [0, 3, 4])]), (61, [(3, [0, 3, 4])]), (32, [(4, [0, 1, 5])]), (64, [(4, [0, 1, 5])]), (83, [(4, [0, 3]), (9, [0, 3, 4])]), (121, [(2, [0, 1, 5])]), (84, [(5, [0, 1, 5, 6])]), (119, [(2, [0, 1, 7, 8])]), (97, [(4, [1, 28, 29, 30])]), (98, [(3, [1, 2, 5, 6])]), (34, [(2, [0, 1, 5])]), (65, [(2, [0, 1, 5])]), (35, [(2, [0, 1, 5])])], handN := [31, 98, 33, 34, 65], scal := [5, 15, 19, 32, 35, 64, 81, 82, 92, 96, 97, 118, 119, 123, 145, 154, 155], pur := [17, 30, 31, 60, 61, 98] }

theorem ok : EnvOK E Try.prog := ⟨look_all tys_ok, look_all fns_ok, by kernel_rfl, look_all (l := tys) (Q := fun _ (i : TI) => i.zero.cells.size = i.size) (by
  intro p hp
  simp only [tys, List.mem_cons, List.not_mem_nil, or_false] at hp
  rcases hp with rfl | rfl | rfl | rfl | rfl | rfl | rfl | rfl <;> rfl)⟩

end Go.Proofs.Ythpcnbjpdcpfbaa.T15

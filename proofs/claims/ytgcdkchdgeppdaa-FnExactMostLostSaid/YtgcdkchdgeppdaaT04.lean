/- The engine's tables for laws.FnExactMostLost, and that they are the program's own; conditions: none. -/

import Derived.Test.YtgcdkchdgeppdaaEp
import Derived.Test.YtgcdkchdgeppdaaChecked
import Derived.KernelRfl
namespace Go.Proofs.Ytgcdkchdgeppdaa.T04
open Go.Proofs.YtgcdkchdgeppdaaE

noncomputable def tys : List (Nat × TI) := [(2, ⟨(Go.TypeDesc.int Go.IntKind.i64), 1, 8, (.int .i64 0)⟩),
  (3, ⟨(Go.TypeDesc.int Go.IntKind.i64), 1, 8, (.int .i64 0)⟩),
  (4, ⟨Go.TypeDesc.bool, 1, 1, (.bool false)⟩),
  (30, ⟨(Go.TypeDesc.slice 120), 1, 24, (.slice none 0 0)⟩),
  (33, ⟨(Go.TypeDesc.slice 118), 1, 24, (.slice none 0 0)⟩),
  (118, ⟨(Go.TypeDesc.struct #[{ name := "Fuse", type := 2, offset := 0, embedded := Bool.false, tag := "", pkgPath := "", byteOffset := 0 }, { name := "Keep", type := 2, offset := 1, embedded := Bool.false, tag := "", pkgPath := "", byteOffset := 8 }, { name := "Cut", type := 4, offset := 2, embedded := Bool.false, tag := "", pkgPath := "", byteOffset := 16 }, { name := "Durable", type := 2, offset := 3, embedded := Bool.false, tag := "", pkgPath := "", byteOffset := 24 }, { name := "Started", type := 2, offset := 4, embedded := Bool.false, tag := "", pkgPath := "", byteOffset := 32 }, { name := "Prefix", type := 2, offset := 5, embedded := Bool.false, tag := "", pkgPath := "", byteOffset := 40 }, { name := "Good", type := 4, offset := 6, embedded := Bool.false, tag := "", pkgPath := "", byteOffset := 48 }]), 7, 56, (.agg #[(.int .i64 0), (.int .i64 0), (.bool false), (.int .i64 0), (.int .i64 0), (.int .i64 0), (.bool false)])⟩),
  (120, ⟨(Go.TypeDesc.struct #[{ name := "Fuse", type := 2, offset := 0, embedded := Bool.false, tag := "", pkgPath := "", byteOffset := 0 }, { name := "Keep", type := 2, offset := 1, embedded := Bool.false, tag := "", pkgPath := "", byteOffset := 8 }, { name := "Cut", type := 4, offset := 2, embedded := Bool.false, tag := "", pkgPath := "", byteOffset := 16 }, { name := "Durable", type := 2, offset := 3, embedded := Bool.false, tag := "", pkgPath := "", byteOffset := 24 }, { name := "Started", type := 2, offset := 4, embedded := Bool.false, tag := "", pkgPath := "", byteOffset := 32 }, { name := "Prefix", type := 2, offset := 5, embedded := Bool.false, tag := "", pkgPath := "", byteOffset := 40 }, { name := "Good", type := 4, offset := 6, embedded := Bool.false, tag := "", pkgPath := "", byteOffset := 48 }]), 7, 56, (.agg #[(.int .i64 0), (.int .i64 0), (.bool false), (.int .i64 0), (.int .i64 0), (.int .i64 0), (.bool false)])⟩)]

theorem tys_ok : ∀ p ∈ tys, ∃ ti, Try.prog.info? p.1 = some ti ∧ Try.prog.underlying p.1 = some p.2.desc ∧ ti.size = p.2.size ∧ ti.bytes = p.2.bytes ∧ ti.zero = some p.2.zero := by
  intro p hp
  simp only [tys, List.mem_cons, List.not_mem_nil, or_false] at hp
  rcases hp with rfl | rfl | rfl | rfl | rfl | rfl | rfl
  · exact info_of (by kernel_rfl) Try.underlying2
  · exact info_of (by kernel_rfl) Try.underlying3
  · exact info_of (by kernel_rfl) Try.underlying4
  · exact info_of (by kernel_rfl) Try.underlying30
  · exact info_of (by kernel_rfl) Try.underlying33
  · exact info_of (by kernel_rfl) Try.underlying118
  · exact info_of (by kernel_rfl) Try.underlying120

noncomputable def fns : List (Nat × Func) := [(24, Try.f24), (87, Try.f87), (26, Try.f26), (90, Try.f90), (28, Try.f28), (79, Try.f79), (91, Try.f91), (29, Try.f29), (80, Try.f80), (30, Try.f30), (6, Try.f6)]

theorem fns_ok : ∀ p ∈ fns, Try.prog.funcs[p.1]? = some p.2 ∧ (p.2.name == "runtime.NumGoroutine") = false ∧ drawsF [6, 24, 28, 29, 30, 79, 80, 87, 90, 91] [26] p.2 = true := by
  intro p hp
  simp only [fns, List.mem_cons, List.not_mem_nil, or_false] at hp
  rcases hp with rfl | rfl | rfl | rfl | rfl | rfl | rfl | rfl | rfl | rfl | rfl
  · exact ⟨Try.func24, by kernel_rfl, by kernel_rfl⟩
  · exact ⟨Try.func87, by kernel_rfl, by kernel_rfl⟩
  · exact ⟨Try.func26, by kernel_rfl, by kernel_rfl⟩
  · exact ⟨Try.func90, by kernel_rfl, by kernel_rfl⟩
  · exact ⟨Try.func28, by kernel_rfl, by kernel_rfl⟩
  · exact ⟨Try.func79, by kernel_rfl, by kernel_rfl⟩
  · exact ⟨Try.func91, by kernel_rfl, by kernel_rfl⟩
  · exact ⟨Try.func29, by kernel_rfl, by kernel_rfl⟩
  · exact ⟨Try.func80, by kernel_rfl, by kernel_rfl⟩
  · exact ⟨Try.func30, by kernel_rfl, by kernel_rfl⟩
  · exact ⟨Try.func6, by kernel_rfl, by kernel_rfl⟩

noncomputable def E : Env := { tys := tys, fns := fns, own := [], keep := [(26, [(3, [0, 3, 4])]), (28, [(4, [0, 1, 5])]), (29, [(3, [0, 3, 4])]), (30, [(3, [3, 6, 7, 8])])], handN := [], scal := [6, 24, 28, 29, 30, 79, 80, 87, 90, 91], pur := [26] }

theorem ok : EnvOK E Try.prog := ⟨look_all tys_ok, look_all fns_ok, by kernel_rfl, look_all (l := tys) (Q := fun _ (i : TI) => i.zero.cells.size = i.size) (by
  intro p hp
  simp only [tys, List.mem_cons, List.not_mem_nil, or_false] at hp
  rcases hp with rfl | rfl | rfl | rfl | rfl | rfl | rfl <;> rfl)⟩

end Go.Proofs.Ytgcdkchdgeppdaa.T04

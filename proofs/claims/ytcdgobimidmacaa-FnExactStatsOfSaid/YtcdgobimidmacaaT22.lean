/- The engine's tables for laws.FnExactStatsOf, and that they are the program's own; conditions: none. -/

import Derived.Test.YtcdgobimidmacaaEs
import Derived.Test.YtcdgobimidmacaaChecked
import Derived.KernelRfl
namespace Go.Proofs.Ytcdgobimidmacaa.T22
open Go.Proofs.YtcdgobimidmacaaE

noncomputable def tys : List (Nat × TI) := [(2, ⟨(Go.TypeDesc.int Go.IntKind.i64), 1, 8, (.int .i64 0)⟩),
  (3, ⟨(Go.TypeDesc.int Go.IntKind.i64), 1, 8, (.int .i64 0)⟩),
  (4, ⟨Go.TypeDesc.bool, 1, 1, (.bool false)⟩),
  (23, ⟨(Go.TypeDesc.slice 2), 1, 24, (.slice none 0 0)⟩),
  (32, ⟨(Go.TypeDesc.slice 39), 1, 24, (.slice none 0 0)⟩),
  (33, ⟨(Go.TypeDesc.tuple #[32, 2]), 1, 0, (.tuple #[(.slice none 0 0), (.int .i64 0)])⟩),
  (39, ⟨(Go.TypeDesc.struct #[{ name := "Live", type := 2, offset := 0, embedded := Bool.false, tag := "", pkgPath := "", byteOffset := 0 }, { name := "Age", type := 2, offset := 1, embedded := Bool.false, tag := "", pkgPath := "", byteOffset := 8 }, { name := "Usable", type := 4, offset := 2, embedded := Bool.false, tag := "", pkgPath := "", byteOffset := 16 }]), 3, 24, (.agg #[(.int .i64 0), (.int .i64 0), (.bool false)])⟩),
  (52, ⟨(Go.TypeDesc.slice 4), 1, 24, (.slice none 0 0)⟩),
  (54, ⟨(Go.TypeDesc.struct #[{ name := "Blocks", type := 2, offset := 0, embedded := Bool.false, tag := "", pkgPath := "", byteOffset := 0 }, { name := "Pages", type := 2, offset := 1, embedded := Bool.false, tag := "", pkgPath := "", byteOffset := 8 }, { name := "Map", type := 23, offset := 2, embedded := Bool.false, tag := "", pkgPath := "", byteOffset := 16 }, { name := "Trimmed", type := 52, offset := 3, embedded := Bool.false, tag := "", pkgPath := "", byteOffset := 40 }]), 4, 64, (.agg #[(.int .i64 0), (.int .i64 0), (.slice none 0 0), (.slice none 0 0)])⟩),
  (65, ⟨(Go.TypeDesc.struct #[{ name := "Blocks", type := 2, offset := 0, embedded := Bool.false, tag := "", pkgPath := "", byteOffset := 0 }, { name := "Pages", type := 2, offset := 1, embedded := Bool.false, tag := "", pkgPath := "", byteOffset := 8 }, { name := "Map", type := 23, offset := 2, embedded := Bool.false, tag := "", pkgPath := "", byteOffset := 16 }, { name := "Trimmed", type := 52, offset := 3, embedded := Bool.false, tag := "", pkgPath := "", byteOffset := 40 }]), 4, 64, (.agg #[(.int .i64 0), (.int .i64 0), (.slice none 0 0), (.slice none 0 0)])⟩),
  (117, ⟨(Go.TypeDesc.func #[2] #[4] Bool.false), 1, 8, .nilFunc⟩),
  (138, ⟨(Go.TypeDesc.pointer 54), 1, 8, (.pointer none)⟩)]

theorem tys_ok : ∀ p ∈ tys, ∃ ti, Try.prog.info? p.1 = some ti ∧ Try.prog.underlying p.1 = some p.2.desc ∧ ti.size = p.2.size ∧ ti.bytes = p.2.bytes ∧ ti.zero = some p.2.zero := by
  intro p hp
  simp only [tys, List.mem_cons, List.not_mem_nil, or_false] at hp
  rcases hp with rfl | rfl | rfl | rfl | rfl | rfl | rfl | rfl | rfl | rfl | rfl | rfl
  · exact info_of (by kernel_rfl) Try.underlying2
  · exact info_of (by kernel_rfl) Try.underlying3
  · exact info_of (by kernel_rfl) Try.underlying4
  · exact info_of (by kernel_rfl) Try.underlying23
  · exact info_of (by kernel_rfl) Try.underlying32
  · exact info_of (by kernel_rfl) Try.underlying33
  · exact info_of (by kernel_rfl) Try.underlying39
  · exact info_of (by kernel_rfl) Try.underlying52
  · exact info_of (by kernel_rfl) Try.underlying54
  · exact info_of (by kernel_rfl) Try.underlying65
  · exact info_of (by kernel_rfl) Try.underlying117
  · exact info_of (by kernel_rfl) Try.underlying138

noncomputable def fns : List (Nat × Func) := [(127, Try.f127), (128, Try.f128), (45, Try.f45), (98, Try.f98), (179, Try.f179), (121, Try.f121), (122, Try.f122), (129, Try.f129), (46, Try.f46), (48, Try.f48), (49, Try.f49), (47, Try.f47), (93, Try.f93), (118, Try.f118), (119, Try.f119), (153, Try.f153), (177, Try.f177), (117, Try.f117), (124, Try.f124), (126, Try.f126), (164, Try.f164), (94, Try.f94), (180, Try.f180), (130, Try.f130), (50, Try.f50), (131, Try.f131), (51, Try.f51), (53, Try.f53), (54, Try.f54), (52, Try.f52), (56, Try.f56), (57, Try.f57), (55, Try.f55), (58, Try.f58), (59, Try.f59), (7, Try.f7)]

theorem fns_ok : ∀ p ∈ fns, Try.prog.funcs[p.1]? = some p.2 ∧ (p.2.name == "runtime.NumGoroutine") = false ∧ drawsF [7, 45, 51, 52, 53, 54, 59, 93, 98, 117, 118, 119, 124, 126, 127, 128, 129, 130, 131, 153, 177, 179] [46, 47, 48, 49, 50, 126] p.2 = true := by
  intro p hp
  simp only [fns, List.mem_cons, List.not_mem_nil, or_false] at hp
  rcases hp with rfl | rfl | rfl | rfl | rfl | rfl | rfl | rfl | rfl | rfl | rfl | rfl | rfl | rfl | rfl | rfl | rfl | rfl | rfl | rfl | rfl | rfl | rfl | rfl | rfl | rfl | rfl | rfl | rfl | rfl | rfl | rfl | rfl | rfl | rfl | rfl
  · exact ⟨Try.func127, by kernel_rfl, by kernel_rfl⟩
  · exact ⟨Try.func128, by kernel_rfl, by kernel_rfl⟩
  · exact ⟨Try.func45, by kernel_rfl, by kernel_rfl⟩
  · exact ⟨Try.func98, by kernel_rfl, by kernel_rfl⟩
  · exact ⟨Try.func179, by kernel_rfl, by kernel_rfl⟩
  · exact ⟨Try.func121, by kernel_rfl, by kernel_rfl⟩
  · exact ⟨Try.func122, by kernel_rfl, by kernel_rfl⟩
  · exact ⟨Try.func129, by kernel_rfl, by kernel_rfl⟩
  · exact ⟨Try.func46, by kernel_rfl, by kernel_rfl⟩
  · exact ⟨Try.func48, by kernel_rfl, by kernel_rfl⟩
  · exact ⟨Try.func49, by kernel_rfl, by kernel_rfl⟩
  · exact ⟨Try.func47, by kernel_rfl, by kernel_rfl⟩
  · exact ⟨Try.func93, by kernel_rfl, by kernel_rfl⟩
  · exact ⟨Try.func118, by kernel_rfl, by kernel_rfl⟩
  · exact ⟨Try.func119, by kernel_rfl, by kernel_rfl⟩
  · exact ⟨Try.func153, by kernel_rfl, by kernel_rfl⟩
  · exact ⟨Try.func177, by kernel_rfl, by kernel_rfl⟩
  · exact ⟨Try.func117, by kernel_rfl, by kernel_rfl⟩
  · exact ⟨Try.func124, by kernel_rfl, by kernel_rfl⟩
  · exact ⟨Try.func126, by kernel_rfl, by kernel_rfl⟩
  · exact ⟨Try.func164, by kernel_rfl, by kernel_rfl⟩
  · exact ⟨Try.func94, by kernel_rfl, by kernel_rfl⟩
  · exact ⟨Try.func180, by kernel_rfl, by kernel_rfl⟩
  · exact ⟨Try.func130, by kernel_rfl, by kernel_rfl⟩
  · exact ⟨Try.func50, by kernel_rfl, by kernel_rfl⟩
  · exact ⟨Try.func131, by kernel_rfl, by kernel_rfl⟩
  · exact ⟨Try.func51, by kernel_rfl, by kernel_rfl⟩
  · exact ⟨Try.func53, by kernel_rfl, by kernel_rfl⟩
  · exact ⟨Try.func54, by kernel_rfl, by kernel_rfl⟩
  · exact ⟨Try.func52, by kernel_rfl, by kernel_rfl⟩
  · exact ⟨Try.func56, by kernel_rfl, by kernel_rfl⟩
  · exact ⟨Try.func57, by kernel_rfl, by kernel_rfl⟩
  · exact ⟨Try.func55, by kernel_rfl, by kernel_rfl⟩
  · exact ⟨Try.func58, by kernel_rfl, by kernel_rfl⟩
  · exact ⟨Try.func59, by kernel_rfl, by kernel_rfl⟩
  · exact ⟨Try.func7, by kernel_rfl, by kernel_rfl⟩

noncomputable def ext : List (Nat × (List V → Fo → Option (V × Fo))) := []

theorem ext_ok : ∀ p ∈ ext, ExtOK Try.prog p.1 p.2 := by
  intro p hp
  exact absurd hp List.not_mem_nil

noncomputable def E : Env := { tys := tys, fns := fns, own := [48, 49, 47, 50, 126, 129], keep := [(121, [(4, [0, 3]), (9, [0, 3, 4])]), (122, [(2, [0, 1, 5])]), (129, [(5, [0, 1, 5, 6])]), (46, [(5, [1, 2, 3, 8, 9])]), (48, [(3, [0, 3, 4])]), (49, [(3, [0, 3, 4])]), (119, [(2, [0, 1, 7, 8])]), (117, [(4, [1, 28, 29, 30])]), (126, [(3, [1, 2, 5, 6])]), (164, [(2, [0, 1, 7, 8])]), (50, [(5, [1, 2, 3, 8, 33, 34])]), (51, [(4, [0, 1, 5])]), (53, [(4, [0, 1, 5])]), (54, [(4, [0, 1, 5])]), (56, [(2, [0, 1, 5])]), (57, [(2, [0, 1, 5])]), (58, [(2, [0, 1, 5])]), (59, [(2, [0, 1, 5])])], handN := [50, 55, 56, 57, 58], scal := [7, 45, 51, 52, 53, 54, 59, 93, 98, 117, 118, 119, 124, 126, 127, 128, 129, 130, 131, 153, 177, 179], pur := [46, 47, 48, 49, 50, 126], takeN := [], ext := ext }

theorem ok : EnvOK E Try.prog := ⟨look_all tys_ok, look_all fns_ok, by kernel_rfl, look_all (l := tys) (Q := fun _ (i : TI) => i.zero.cells.size = i.size) (by
  intro p hp
  simp only [tys, List.mem_cons, List.not_mem_nil, or_false] at hp
  rcases hp with rfl | rfl | rfl | rfl | rfl | rfl | rfl | rfl | rfl | rfl | rfl | rfl <;> rfl), look_all ext_ok⟩

end Go.Proofs.Ytcdgobimidmacaa.T22

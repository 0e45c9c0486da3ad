/- The engine's tables for laws.FnScramble, and that they are the program's own; conditions: none. -/

import Derived.Test.YtjbddmmammgmjaaEs
import Derived.Test.YtjbddmmammgmjaaChecked
import Derived.KernelRfl
namespace Go.Proofs.Ytjbddmmammgmjaa.T17
open Go.Proofs.YtjbddmmammgmjaaE

noncomputable def tys : List (Nat × TI) := [(2, ⟨(Go.TypeDesc.int Go.IntKind.i64), 1, 8, (.int .i64 0)⟩),
  (3, ⟨(Go.TypeDesc.int Go.IntKind.i64), 1, 8, (.int .i64 0)⟩),
  (4, ⟨Go.TypeDesc.bool, 1, 1, (.bool false)⟩),
  (5, ⟨(Go.TypeDesc.int Go.IntKind.u8), 1, 1, (.int .u8 0)⟩),
  (9, ⟨Go.TypeDesc.string, 1, 16, (.string ⟨#[]⟩)⟩),
  (22, ⟨(Go.TypeDesc.slice 5), 1, 24, (.slice none 0 0)⟩),
  (23, ⟨(Go.TypeDesc.slice 2), 1, 24, (.slice none 0 0)⟩),
  (83, ⟨(Go.TypeDesc.tuple #[2, 9]), 1, 0, (.tuple #[(.int .i64 0), (.string ⟨#[]⟩)])⟩),
  (85, ⟨(Go.TypeDesc.tuple #[9, 2]), 1, 0, (.tuple #[(.string ⟨#[]⟩), (.int .i64 0)])⟩),
  (144, ⟨(Go.TypeDesc.pointer 232), 1, 8, (.pointer none)⟩),
  (230, ⟨(Go.TypeDesc.int Go.IntKind.u64), 1, 8, (.int .u64 0)⟩),
  (232, ⟨(Go.TypeDesc.struct #[{ name := "code", type := 22, offset := 0, embedded := Bool.false, tag := "", pkgPath := "loop.example/g00905/spec", byteOffset := 0 }, { name := "at", type := 3, offset := 1, embedded := Bool.false, tag := "", pkgPath := "loop.example/g00905/spec", byteOffset := 24 }, { name := "seed", type := 230, offset := 2, embedded := Bool.false, tag := "", pkgPath := "loop.example/g00905/spec", byteOffset := 32 }]), 3, 40, (.agg #[(.slice none 0 0), (.int .i64 0), (.int .u64 0)])⟩)]

theorem tys_ok : ∀ p ∈ tys, ∃ ti, Try.prog.info? p.1 = some ti ∧ Try.prog.underlying p.1 = some p.2.desc ∧ ti.size = p.2.size ∧ ti.bytes = p.2.bytes ∧ ti.zero = some p.2.zero := by
  intro p hp
  simp only [tys, List.mem_cons, List.not_mem_nil, or_false] at hp
  rcases hp with rfl | rfl | rfl | rfl | rfl | rfl | rfl | rfl | rfl | rfl | rfl | rfl
  · exact info_of (by kernel_rfl) Try.underlying2
  · exact info_of (by kernel_rfl) Try.underlying3
  · exact info_of (by kernel_rfl) Try.underlying4
  · exact info_of (by kernel_rfl) Try.underlying5
  · exact info_of (by kernel_rfl) Try.underlying9
  · exact info_of (by kernel_rfl) Try.underlying22
  · exact info_of (by kernel_rfl) Try.underlying23
  · exact info_of (by kernel_rfl) Try.underlying83
  · exact info_of (by kernel_rfl) Try.underlying85
  · exact info_of (by kernel_rfl) Try.underlying144
  · exact info_of (by kernel_rfl) Try.underlying230
  · exact info_of (by kernel_rfl) Try.underlying232

noncomputable def fns : List (Nat × Func) := [(61, Try.f61), (103, Try.f103), (217, Try.f217), (122, Try.f122), (130, Try.f130), (105, Try.f105), (164, Try.f164), (165, Try.f165), (62, Try.f62), (107, Try.f107), (231, Try.f231), (168, Try.f168), (230, Try.f230), (166, Try.f166), (63, Try.f63), (167, Try.f167), (64, Try.f64), (65, Try.f65), (9, Try.f9)]

theorem fns_ok : ∀ p ∈ fns, Try.prog.funcs[p.1]? = some p.2 ∧ (p.2.name == "runtime.NumGoroutine") = false ∧ drawsF [9, 61, 62, 63, 64, 65, 107, 166, 167, 168, 230, 231, 1000022, 2000025, 2000042, 2000054, 2000066, 2000131, 2000136, 2000232, 2000250, 2000272, 2000278] [] p.2 = true := by
  intro p hp
  simp only [fns, List.mem_cons, List.not_mem_nil, or_false] at hp
  rcases hp with rfl | rfl | rfl | rfl | rfl | rfl | rfl | rfl | rfl | rfl | rfl | rfl | rfl | rfl | rfl | rfl | rfl | rfl | rfl
  · exact ⟨Try.func61, by kernel_rfl, by kernel_rfl⟩
  · exact ⟨Try.func103, by kernel_rfl, by kernel_rfl⟩
  · exact ⟨Try.func217, by kernel_rfl, by kernel_rfl⟩
  · exact ⟨Try.func122, by kernel_rfl, by kernel_rfl⟩
  · exact ⟨Try.func130, by kernel_rfl, by kernel_rfl⟩
  · exact ⟨Try.func105, by kernel_rfl, by kernel_rfl⟩
  · exact ⟨Try.func164, by kernel_rfl, by kernel_rfl⟩
  · exact ⟨Try.func165, by kernel_rfl, by kernel_rfl⟩
  · exact ⟨Try.func62, by kernel_rfl, by kernel_rfl⟩
  · exact ⟨Try.func107, by kernel_rfl, by kernel_rfl⟩
  · exact ⟨Try.func231, by kernel_rfl, by kernel_rfl⟩
  · exact ⟨Try.func168, by kernel_rfl, by kernel_rfl⟩
  · exact ⟨Try.func230, by kernel_rfl, by kernel_rfl⟩
  · exact ⟨Try.func166, by kernel_rfl, by kernel_rfl⟩
  · exact ⟨Try.func63, by kernel_rfl, by kernel_rfl⟩
  · exact ⟨Try.func167, by kernel_rfl, by kernel_rfl⟩
  · exact ⟨Try.func64, by kernel_rfl, by kernel_rfl⟩
  · exact ⟨Try.func65, by kernel_rfl, by kernel_rfl⟩
  · exact ⟨Try.func9, by kernel_rfl, by kernel_rfl⟩

noncomputable def ext : List (Nat × (List V → Fo → Option (V × Fo))) := []

theorem ext_ok : ∀ p ∈ ext, ExtOK Try.prog p.1 p.2 := by
  intro p hp
  exact absurd hp List.not_mem_nil

noncomputable def eqs : List (Nat × List (Nat × Nat)) := []

theorem eqs_ok : ∀ p ∈ eqs, Try.prog.stoodInHeld p.1 = false ∧ Try.prog.eqGuardType Try.prog.depth p.1 = false ∧ (∃ fs, Try.prog.underlying p.1 = some (.struct fs) ∧ eqFits Try.prog fs.toList p.2 = true) := by
  intro p hp
  exact absurd hp List.not_mem_nil

noncomputable def E : Env := { tys := tys, fns := fns, own := [], keep := [(165, [(3, [0, 5, 6])]), (168, [(3, [0, 5, 11, 12]), (6, [0, 5, 6, 11, 12, 15])]), (230, [(3, [0, 1, 5, 11, 12])])], handN := [], scal := [9, 61, 62, 63, 64, 65, 107, 166, 167, 168, 230, 231, 1000022, 2000025, 2000042, 2000054, 2000066, 2000131, 2000136, 2000232, 2000250, 2000272, 2000278], pur := [], takeN := [], ext := ext, eqs := eqs }

theorem ok : EnvOK E Try.prog := ⟨look_all tys_ok, look_all fns_ok, by kernel_rfl, look_all (l := tys) (Q := fun _ (i : TI) => i.zero.cells.size = i.size) (by
  intro p hp
  simp only [tys, List.mem_cons, List.not_mem_nil, or_false] at hp
  rcases hp with rfl | rfl | rfl | rfl | rfl | rfl | rfl | rfl | rfl | rfl | rfl | rfl <;> rfl), look_all ext_ok, look_all (l := eqs) (Q := fun t l => Try.prog.stoodInHeld t = false ∧ Try.prog.eqGuardType Try.prog.depth t = false ∧ (∃ fs, Try.prog.underlying t = some (.struct fs) ∧ eqFits Try.prog fs.toList l = true)) eqs_ok⟩

end Go.Proofs.Ytjbddmmammgmjaa.T17

/- The engine's tables for laws.FnErasePasses, and that they are the program's own; conditions: none. -/

import Derived.Test.YtjbddmmammgmjaaEs
import Derived.Test.YtjbddmmammgmjaaChecked
import Derived.KernelRfl
namespace Go.Proofs.Ytjbddmmammgmjaa.T12
open Go.Proofs.YtjbddmmammgmjaaE

noncomputable def tys : List (Nat × TI) := [(2, ⟨(Go.TypeDesc.int Go.IntKind.i64), 1, 8, (.int .i64 0)⟩),
  (3, ⟨(Go.TypeDesc.int Go.IntKind.i64), 1, 8, (.int .i64 0)⟩),
  (4, ⟨Go.TypeDesc.bool, 1, 1, (.bool false)⟩),
  (5, ⟨(Go.TypeDesc.int Go.IntKind.u8), 1, 1, (.int .u8 0)⟩),
  (22, ⟨(Go.TypeDesc.slice 5), 1, 24, (.slice none 0 0)⟩),
  (23, ⟨(Go.TypeDesc.slice 2), 1, 24, (.slice none 0 0)⟩),
  (25, ⟨(Go.TypeDesc.struct #[{ name := "Charge", type := 23, offset := 0, embedded := Bool.false, tag := "", pkgPath := "", byteOffset := 0 }]), 1, 24, (.agg #[(.slice none 0 0)])⟩),
  (26, ⟨(Go.TypeDesc.tuple #[25, 2]), 1, 0, (.tuple #[(.agg #[(.slice none 0 0)]), (.int .i64 0)])⟩),
  (144, ⟨(Go.TypeDesc.pointer 232), 1, 8, (.pointer none)⟩),
  (151, ⟨(Go.TypeDesc.func #[2] #[4] Bool.false), 1, 8, .nilFunc⟩),
  (230, ⟨(Go.TypeDesc.int Go.IntKind.u64), 1, 8, (.int .u64 0)⟩),
  (232, ⟨(Go.TypeDesc.struct #[{ name := "code", type := 22, offset := 0, embedded := Bool.false, tag := "", pkgPath := "loop.example/g00905/spec", byteOffset := 0 }, { name := "at", type := 3, offset := 1, embedded := Bool.false, tag := "", pkgPath := "loop.example/g00905/spec", byteOffset := 24 }, { name := "seed", type := 230, offset := 2, embedded := Bool.false, tag := "", pkgPath := "loop.example/g00905/spec", byteOffset := 32 }]), 3, 40, (.agg #[(.slice none 0 0), (.int .i64 0), (.int .u64 0)])⟩)]

theorem tys_ok : ∀ p ∈ tys, ∃ ti, Try.prog.info? p.1 = some ti ∧ Try.prog.underlying p.1 = some p.2.desc ∧ ti.size = p.2.size ∧ ti.bytes = p.2.bytes ∧ ti.zero = some p.2.zero := by
  intro p hp
  simp only [tys, List.mem_cons, List.not_mem_nil, or_false] at hp
  rcases hp with rfl | rfl | rfl | rfl | rfl | rfl | rfl | rfl | rfl | rfl | rfl | rfl
  · exact info_of (by kernel_rfl) Try.underlying2
  · exact info_of (by kernel_rfl) Try.underlying3
  · exact info_of (by kernel_rfl) Try.underlying4
  · exact info_of (by kernel_rfl) Try.underlying5
  · exact info_of (by kernel_rfl) Try.underlying22
  · exact info_of (by kernel_rfl) Try.underlying23
  · exact info_of (by kernel_rfl) Try.underlying25
  · exact info_of (by kernel_rfl) Try.underlying26
  · exact info_of (by kernel_rfl) Try.underlying144
  · exact info_of (by kernel_rfl) Try.underlying151
  · exact info_of (by kernel_rfl) Try.underlying230
  · exact info_of (by kernel_rfl) Try.underlying232

noncomputable def fns : List (Nat × Func) := [(103, Try.f103), (217, Try.f217), (122, Try.f122), (105, Try.f105), (130, Try.f130), (104, Try.f104), (15, Try.f15), (210, Try.f210), (108, Try.f108), (107, Try.f107), (227, Try.f227), (149, Try.f149), (106, Try.f106), (109, Try.f109), (110, Try.f110), (16, Try.f16), (112, Try.f112), (111, Try.f111), (113, Try.f113), (17, Try.f17), (18, Try.f18), (3, Try.f3)]

theorem fns_ok : ∀ p ∈ fns, Try.prog.funcs[p.1]? = some p.2 ∧ (p.2.name == "runtime.NumGoroutine") = false ∧ drawsF [3, 16, 17, 106, 107, 111, 112, 113, 149, 2000025, 2000042, 2000054, 2000066, 2000131, 2000136, 2000232, 2000250, 2000272, 2000278] [15, 18, 110] p.2 = true := by
  intro p hp
  simp only [fns, List.mem_cons, List.not_mem_nil, or_false] at hp
  rcases hp with rfl | rfl | rfl | rfl | rfl | rfl | rfl | rfl | rfl | rfl | rfl | rfl | rfl | rfl | rfl | rfl | rfl | rfl | rfl | rfl | rfl | rfl
  · exact ⟨Try.func103, by kernel_rfl, by kernel_rfl⟩
  · exact ⟨Try.func217, by kernel_rfl, by kernel_rfl⟩
  · exact ⟨Try.func122, by kernel_rfl, by kernel_rfl⟩
  · exact ⟨Try.func105, by kernel_rfl, by kernel_rfl⟩
  · exact ⟨Try.func130, by kernel_rfl, by kernel_rfl⟩
  · exact ⟨Try.func104, by kernel_rfl, by kernel_rfl⟩
  · exact ⟨Try.func15, by kernel_rfl, by kernel_rfl⟩
  · exact ⟨Try.func210, by kernel_rfl, by kernel_rfl⟩
  · exact ⟨Try.func108, by kernel_rfl, by kernel_rfl⟩
  · exact ⟨Try.func107, by kernel_rfl, by kernel_rfl⟩
  · exact ⟨Try.func227, by kernel_rfl, by kernel_rfl⟩
  · exact ⟨Try.func149, by kernel_rfl, by kernel_rfl⟩
  · exact ⟨Try.func106, by kernel_rfl, by kernel_rfl⟩
  · exact ⟨Try.func109, by kernel_rfl, by kernel_rfl⟩
  · exact ⟨Try.func110, by kernel_rfl, by kernel_rfl⟩
  · exact ⟨Try.func16, by kernel_rfl, by kernel_rfl⟩
  · exact ⟨Try.func112, by kernel_rfl, by kernel_rfl⟩
  · exact ⟨Try.func111, by kernel_rfl, by kernel_rfl⟩
  · exact ⟨Try.func113, by kernel_rfl, by kernel_rfl⟩
  · exact ⟨Try.func17, by kernel_rfl, by kernel_rfl⟩
  · exact ⟨Try.func18, by kernel_rfl, by kernel_rfl⟩
  · exact ⟨Try.func3, by kernel_rfl, by kernel_rfl⟩

noncomputable def ext : List (Nat × (List V → Fo → Option (V × Fo))) := [(211, extClone 2 ⟨(Go.TypeDesc.int Go.IntKind.i64), 1, 8, (.int .i64 0)⟩)]

theorem ext_ok : ∀ p ∈ ext, ExtOK Try.prog p.1 p.2 := by
  intro p hp
  simp only [ext, List.mem_cons, List.not_mem_nil, or_false] at hp
  rcases hp with rfl
  · exact ext_clone (s := 23) (b := 4) (clone_lays (is := ⟨(Go.TypeDesc.slice 2), 1, 24, (.slice none 0 0)⟩) (ib := ⟨Go.TypeDesc.bool, 1, 1, (.bool false)⟩) (by kernel_rfl) ⟨_, by kernel_rfl, Try.func211⟩ (look_all tys_ok 23 _ rfl) (look_all tys_ok 4 _ rfl) rfl rfl rfl rfl rfl rfl) ⟨Try.f211, Try.func211, by kernel_rfl, by kernel_rfl⟩ (look_all tys_ok 2 _ rfl) rfl

noncomputable def eqs : List (Nat × List (Nat × Nat)) := []

theorem eqs_ok : ∀ p ∈ eqs, Try.prog.stoodInHeld p.1 = false ∧ Try.prog.eqGuardType Try.prog.depth p.1 = false ∧ (∃ fs, Try.prog.underlying p.1 = some (.struct fs) ∧ eqFits Try.prog fs.toList p.2 = true) := by
  intro p hp
  exact absurd hp List.not_mem_nil

noncomputable def E : Env := { tys := tys, fns := fns, own := [], keep := [(104, [(4, [0, 2, 3, 4, 5])]), (210, [(2, [0, 1, 7, 8])]), (110, [(3, [2, 3, 11, 12])]), (16, [(4, [2, 3, 5])]), (111, [(4, [1, 3])]), (17, [(5, [1, 2, 5, 6]), (9, [1, 5, 7])]), (3, [(8, [3, 4, 5, 6]), (12, [3, 4, 5, 6, 7, 8]), (19, [3, 4, 5, 9])])], handN := [105, 108, 210], scal := [3, 16, 17, 106, 107, 111, 112, 113, 149, 2000025, 2000042, 2000054, 2000066, 2000131, 2000136, 2000232, 2000250, 2000272, 2000278], pur := [15, 18, 110], takeN := [], ext := ext, eqs := eqs }

theorem ok : EnvOK E Try.prog := ⟨look_all tys_ok, look_all fns_ok, by kernel_rfl, look_all (l := tys) (Q := fun _ (i : TI) => i.zero.cells.size = i.size) (by
  intro p hp
  simp only [tys, List.mem_cons, List.not_mem_nil, or_false] at hp
  rcases hp with rfl | rfl | rfl | rfl | rfl | rfl | rfl | rfl | rfl | rfl | rfl | rfl <;> rfl), look_all ext_ok, look_all (l := eqs) (Q := fun t l => Try.prog.stoodInHeld t = false ∧ Try.prog.eqGuardType Try.prog.depth t = false ∧ (∃ fs, Try.prog.underlying t = some (.struct fs) ∧ eqFits Try.prog fs.toList l = true)) eqs_ok⟩

end Go.Proofs.Ytjbddmmammgmjaa.T12

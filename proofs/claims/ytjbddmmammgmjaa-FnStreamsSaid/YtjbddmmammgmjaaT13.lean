/- The engine's tables for laws.FnStreams, and that they are the program's own; conditions: none. -/

import Derived.Test.YtjbddmmammgmjaaEs
import Derived.Test.YtjbddmmammgmjaaChecked
import Derived.KernelRfl
namespace Go.Proofs.Ytjbddmmammgmjaa.T13
open Go.Proofs.YtjbddmmammgmjaaE

noncomputable def tys : List (Nat × TI) := [(2, ⟨(Go.TypeDesc.int Go.IntKind.i64), 1, 8, (.int .i64 0)⟩),
  (3, ⟨(Go.TypeDesc.int Go.IntKind.i64), 1, 8, (.int .i64 0)⟩),
  (4, ⟨Go.TypeDesc.bool, 1, 1, (.bool false)⟩),
  (5, ⟨(Go.TypeDesc.int Go.IntKind.u8), 1, 1, (.int .u8 0)⟩),
  (22, ⟨(Go.TypeDesc.slice 5), 1, 24, (.slice none 0 0)⟩),
  (23, ⟨(Go.TypeDesc.slice 2), 1, 24, (.slice none 0 0)⟩),
  (42, ⟨(Go.TypeDesc.struct #[{ name := "Counts", type := 23, offset := 0, embedded := Bool.false, tag := "", pkgPath := "", byteOffset := 0 }, { name := "Writes", type := 2, offset := 1, embedded := Bool.false, tag := "", pkgPath := "", byteOffset := 24 }]), 2, 32, (.agg #[(.slice none 0 0), (.int .i64 0)])⟩),
  (43, ⟨(Go.TypeDesc.tuple #[42, 2]), 1, 0, (.tuple #[(.agg #[(.slice none 0 0), (.int .i64 0)]), (.int .i64 0)])⟩),
  (144, ⟨(Go.TypeDesc.pointer 232), 1, 8, (.pointer none)⟩),
  (151, ⟨(Go.TypeDesc.func #[2] #[4] Bool.false), 1, 8, .nilFunc⟩),
  (164, ⟨(Go.TypeDesc.pointer 42), 1, 8, (.pointer none)⟩),
  (230, ⟨(Go.TypeDesc.int Go.IntKind.u64), 1, 8, (.int .u64 0)⟩),
  (232, ⟨(Go.TypeDesc.struct #[{ name := "code", type := 22, offset := 0, embedded := Bool.false, tag := "", pkgPath := "loop.example/g00905/spec", byteOffset := 0 }, { name := "at", type := 3, offset := 1, embedded := Bool.false, tag := "", pkgPath := "loop.example/g00905/spec", byteOffset := 24 }, { name := "seed", type := 230, offset := 2, embedded := Bool.false, tag := "", pkgPath := "loop.example/g00905/spec", byteOffset := 32 }]), 3, 40, (.agg #[(.slice none 0 0), (.int .i64 0), (.int .u64 0)])⟩)]

theorem tys_ok : ∀ p ∈ tys, ∃ ti, Try.prog.info? p.1 = some ti ∧ Try.prog.underlying p.1 = some p.2.desc ∧ ti.size = p.2.size ∧ ti.bytes = p.2.bytes ∧ ti.zero = some p.2.zero := by
  intro p hp
  simp only [tys, List.mem_cons, List.not_mem_nil, or_false] at hp
  rcases hp with rfl | rfl | rfl | rfl | rfl | rfl | rfl | rfl | rfl | rfl | rfl | rfl | rfl
  · exact info_of (by kernel_rfl) Try.underlying2
  · exact info_of (by kernel_rfl) Try.underlying3
  · exact info_of (by kernel_rfl) Try.underlying4
  · exact info_of (by kernel_rfl) Try.underlying5
  · exact info_of (by kernel_rfl) Try.underlying22
  · exact info_of (by kernel_rfl) Try.underlying23
  · exact info_of (by kernel_rfl) Try.underlying42
  · exact info_of (by kernel_rfl) Try.underlying43
  · exact info_of (by kernel_rfl) Try.underlying144
  · exact info_of (by kernel_rfl) Try.underlying151
  · exact info_of (by kernel_rfl) Try.underlying164
  · exact info_of (by kernel_rfl) Try.underlying230
  · exact info_of (by kernel_rfl) Try.underlying232

noncomputable def fns : List (Nat × Func) := [(19, Try.f19), (103, Try.f103), (217, Try.f217), (122, Try.f122), (105, Try.f105), (219, Try.f219), (220, Try.f220), (221, Try.f221), (126, Try.f126), (130, Try.f130), (216, Try.f216), (121, Try.f121), (27, Try.f27), (107, Try.f107), (120, Try.f120), (210, Try.f210), (108, Try.f108), (227, Try.f227), (149, Try.f149), (123, Try.f123), (218, Try.f218), (124, Try.f124), (28, Try.f28), (112, Try.f112), (125, Try.f125), (29, Try.f29), (127, Try.f127), (30, Try.f30), (128, Try.f128), (31, Try.f31), (32, Try.f32), (33, Try.f33), (34, Try.f34), (35, Try.f35), (5, Try.f5)]

theorem fns_ok : ∀ p ∈ fns, Try.prog.funcs[p.1]? = some p.2 ∧ (p.2.name == "runtime.NumGoroutine") = false ∧ drawsF [5, 19, 30, 32, 34, 35, 107, 112, 120, 123, 127, 128, 149, 2000025, 2000042, 2000054, 2000066, 2000131, 2000136, 2000232, 2000250, 2000272, 2000278] [29, 31] p.2 = true := by
  intro p hp
  simp only [fns, List.mem_cons, List.not_mem_nil, or_false] at hp
  rcases hp with rfl | rfl | rfl | rfl | rfl | rfl | rfl | rfl | rfl | rfl | rfl | rfl | rfl | rfl | rfl | rfl | rfl | rfl | rfl | rfl | rfl | rfl | rfl | rfl | rfl | rfl | rfl | rfl | rfl | rfl | rfl | rfl | rfl | rfl | rfl
  · exact ⟨Try.func19, by kernel_rfl, by kernel_rfl⟩
  · exact ⟨Try.func103, by kernel_rfl, by kernel_rfl⟩
  · exact ⟨Try.func217, by kernel_rfl, by kernel_rfl⟩
  · exact ⟨Try.func122, by kernel_rfl, by kernel_rfl⟩
  · exact ⟨Try.func105, by kernel_rfl, by kernel_rfl⟩
  · exact ⟨Try.func219, by kernel_rfl, by kernel_rfl⟩
  · exact ⟨Try.func220, by kernel_rfl, by kernel_rfl⟩
  · exact ⟨Try.func221, by kernel_rfl, by kernel_rfl⟩
  · exact ⟨Try.func126, by kernel_rfl, by kernel_rfl⟩
  · exact ⟨Try.func130, by kernel_rfl, by kernel_rfl⟩
  · exact ⟨Try.func216, by kernel_rfl, by kernel_rfl⟩
  · exact ⟨Try.func121, by kernel_rfl, by kernel_rfl⟩
  · exact ⟨Try.func27, by kernel_rfl, by kernel_rfl⟩
  · exact ⟨Try.func107, by kernel_rfl, by kernel_rfl⟩
  · exact ⟨Try.func120, by kernel_rfl, by kernel_rfl⟩
  · exact ⟨Try.func210, by kernel_rfl, by kernel_rfl⟩
  · exact ⟨Try.func108, by kernel_rfl, by kernel_rfl⟩
  · exact ⟨Try.func227, by kernel_rfl, by kernel_rfl⟩
  · exact ⟨Try.func149, by kernel_rfl, by kernel_rfl⟩
  · exact ⟨Try.func123, by kernel_rfl, by kernel_rfl⟩
  · exact ⟨Try.func218, by kernel_rfl, by kernel_rfl⟩
  · exact ⟨Try.func124, by kernel_rfl, by kernel_rfl⟩
  · exact ⟨Try.func28, by kernel_rfl, by kernel_rfl⟩
  · exact ⟨Try.func112, by kernel_rfl, by kernel_rfl⟩
  · exact ⟨Try.func125, by kernel_rfl, by kernel_rfl⟩
  · exact ⟨Try.func29, by kernel_rfl, by kernel_rfl⟩
  · exact ⟨Try.func127, by kernel_rfl, by kernel_rfl⟩
  · exact ⟨Try.func30, by kernel_rfl, by kernel_rfl⟩
  · exact ⟨Try.func128, by kernel_rfl, by kernel_rfl⟩
  · exact ⟨Try.func31, by kernel_rfl, by kernel_rfl⟩
  · exact ⟨Try.func32, by kernel_rfl, by kernel_rfl⟩
  · exact ⟨Try.func33, by kernel_rfl, by kernel_rfl⟩
  · exact ⟨Try.func34, by kernel_rfl, by kernel_rfl⟩
  · exact ⟨Try.func35, by kernel_rfl, by kernel_rfl⟩
  · exact ⟨Try.func5, by kernel_rfl, by kernel_rfl⟩

noncomputable def ext : List (Nat × (List V → Fo → Option (V × Fo))) := [(211, extClone 2 ⟨(Go.TypeDesc.int Go.IntKind.i64), 1, 8, (.int .i64 0)⟩)]

theorem ext_ok : ∀ p ∈ ext, ExtOK Try.prog p.1 p.2 := by
  intro p hp
  simp only [ext, List.mem_cons, List.not_mem_nil, or_false] at hp
  rcases hp with rfl
  · exact ext_clone (s := 23) (b := 4) (clone_lays (is := ⟨(Go.TypeDesc.slice 2), 1, 24, (.slice none 0 0)⟩) (ib := ⟨Go.TypeDesc.bool, 1, 1, (.bool false)⟩) (by kernel_rfl) ⟨_, by kernel_rfl, Try.func211⟩ (look_all tys_ok 23 _ rfl) (look_all tys_ok 4 _ rfl) rfl rfl rfl rfl rfl rfl) ⟨Try.f211, Try.func211, by kernel_rfl, by kernel_rfl⟩ (look_all tys_ok 2 _ rfl) rfl

noncomputable def eqs : List (Nat × List (Nat × Nat)) := []

theorem eqs_ok : ∀ p ∈ eqs, Try.prog.stoodInHeld p.1 = false ∧ Try.prog.eqGuardType Try.prog.depth p.1 = false ∧ (∃ fs, Try.prog.underlying p.1 = some (.struct fs) ∧ eqFits Try.prog fs.toList p.2 = true) := by
  intro p hp
  exact absurd hp List.not_mem_nil

noncomputable def E : Env := { tys := tys, fns := fns, own := [27, 28, 33, 105, 121, 124, 126, 216, 218, 219, 220, 221], keep := [(221, [(3, [0, 2, 3, 4])]), (121, [(4, [0, 2, 3, 4, 5])]), (210, [(2, [0, 1, 7, 8])]), (218, [(3, [2, 3, 11, 12])]), (125, [(4, [0, 3])]), (127, [(4, [0, 1, 5])]), (128, [(3, [1, 2, 5, 9, 10, 11])]), (31, [(5, [1, 3, 10, 11])]), (5, [(15, [11, 12, 13, 14])])], handN := [105, 108, 210, 219], scal := [5, 19, 30, 32, 34, 35, 107, 112, 120, 123, 127, 128, 149, 2000025, 2000042, 2000054, 2000066, 2000131, 2000136, 2000232, 2000250, 2000272, 2000278], pur := [29, 31], takeN := [], ext := ext, eqs := eqs }

theorem ok : EnvOK E Try.prog := ⟨look_all tys_ok, look_all fns_ok, by kernel_rfl, look_all (l := tys) (Q := fun _ (i : TI) => i.zero.cells.size = i.size) (by
  intro p hp
  simp only [tys, List.mem_cons, List.not_mem_nil, or_false] at hp
  rcases hp with rfl | rfl | rfl | rfl | rfl | rfl | rfl | rfl | rfl | rfl | rfl | rfl | rfl <;> rfl), look_all ext_ok, look_all (l := eqs) (Q := fun t l => Try.prog.stoodInHeld t = false ∧ Try.prog.eqGuardType Try.prog.depth t = false ∧ (∃ fs, Try.prog.underlying t = some (.struct fs) ∧ eqFits Try.prog fs.toList l = true)) eqs_ok⟩

end Go.Proofs.Ytjbddmmammgmjaa.T13

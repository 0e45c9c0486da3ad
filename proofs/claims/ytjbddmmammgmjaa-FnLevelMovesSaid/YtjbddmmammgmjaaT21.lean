/- The engine's tables for laws.FnLevelMoves, and that they are the program's own; conditions: none. -/

import Derived.Test.YtjbddmmammgmjaaEs
import Derived.Test.YtjbddmmammgmjaaChecked
import Derived.KernelRfl
namespace Go.Proofs.Ytjbddmmammgmjaa.T21
open Go.Proofs.YtjbddmmammgmjaaE

noncomputable def tys : List (Nat × TI) := [(2, ⟨(Go.TypeDesc.int Go.IntKind.i64), 1, 8, (.int .i64 0)⟩),
  (3, ⟨(Go.TypeDesc.int Go.IntKind.i64), 1, 8, (.int .i64 0)⟩),
  (4, ⟨Go.TypeDesc.bool, 1, 1, (.bool false)⟩),
  (5, ⟨(Go.TypeDesc.int Go.IntKind.u8), 1, 1, (.int .u8 0)⟩),
  (22, ⟨(Go.TypeDesc.slice 5), 1, 24, (.slice none 0 0)⟩),
  (23, ⟨(Go.TypeDesc.slice 2), 1, 24, (.slice none 0 0)⟩),
  (52, ⟨(Go.TypeDesc.slice 4), 1, 24, (.slice none 0 0)⟩),
  (66, ⟨(Go.TypeDesc.struct #[{ name := "Erases", type := 23, offset := 0, embedded := Bool.false, tag := "", pkgPath := "", byteOffset := 0 }, { name := "Bad", type := 52, offset := 1, embedded := Bool.false, tag := "", pkgPath := "", byteOffset := 24 }, { name := "Content", type := 23, offset := 2, embedded := Bool.false, tag := "", pkgPath := "", byteOffset := 48 }, { name := "Bound", type := 2, offset := 3, embedded := Bool.false, tag := "", pkgPath := "", byteOffset := 72 }]), 4, 80, (.agg #[(.slice none 0 0), (.slice none 0 0), (.slice none 0 0), (.int .i64 0)])⟩),
  (79, ⟨(Go.TypeDesc.tuple #[66, 2]), 1, 0, (.tuple #[(.agg #[(.slice none 0 0), (.slice none 0 0), (.slice none 0 0), (.int .i64 0)]), (.int .i64 0)])⟩),
  (101, ⟨(Go.TypeDesc.tuple #[2, 2, 4]), 1, 0, (.tuple #[(.int .i64 0), (.int .i64 0), (.bool false)])⟩),
  (144, ⟨(Go.TypeDesc.pointer 232), 1, 8, (.pointer none)⟩),
  (151, ⟨(Go.TypeDesc.func #[2] #[4] Bool.false), 1, 8, .nilFunc⟩),
  (186, ⟨(Go.TypeDesc.func #[2, 2] #[4] Bool.false), 1, 8, .nilFunc⟩),
  (230, ⟨(Go.TypeDesc.int Go.IntKind.u64), 1, 8, (.int .u64 0)⟩),
  (232, ⟨(Go.TypeDesc.struct #[{ name := "code", type := 22, offset := 0, embedded := Bool.false, tag := "", pkgPath := "loop.example/g00905/spec", byteOffset := 0 }, { name := "at", type := 3, offset := 1, embedded := Bool.false, tag := "", pkgPath := "loop.example/g00905/spec", byteOffset := 24 }, { name := "seed", type := 230, offset := 2, embedded := Bool.false, tag := "", pkgPath := "loop.example/g00905/spec", byteOffset := 32 }]), 3, 40, (.agg #[(.slice none 0 0), (.int .i64 0), (.int .u64 0)])⟩),
  (240, ⟨(Go.TypeDesc.pointer 66), 1, 8, (.pointer none)⟩)]

theorem tys_ok : ∀ p ∈ tys, ∃ ti, Try.prog.info? p.1 = some ti ∧ Try.prog.underlying p.1 = some p.2.desc ∧ ti.size = p.2.size ∧ ti.bytes = p.2.bytes ∧ ti.zero = some p.2.zero := by
  intro p hp
  simp only [tys, List.mem_cons, List.not_mem_nil, or_false] at hp
  rcases hp with rfl | rfl | rfl | rfl | rfl | rfl | rfl | rfl | rfl | rfl | rfl | rfl | rfl | rfl | rfl | rfl
  · exact info_of (by kernel_rfl) Try.underlying2
  · exact info_of (by kernel_rfl) Try.underlying3
  · exact info_of (by kernel_rfl) Try.underlying4
  · exact info_of (by kernel_rfl) Try.underlying5
  · exact info_of (by kernel_rfl) Try.underlying22
  · exact info_of (by kernel_rfl) Try.underlying23
  · exact info_of (by kernel_rfl) Try.underlying52
  · exact info_of (by kernel_rfl) Try.underlying66
  · exact info_of (by kernel_rfl) Try.underlying79
  · exact info_of (by kernel_rfl) Try.underlying101
  · exact info_of (by kernel_rfl) Try.underlying144
  · exact info_of (by kernel_rfl) Try.underlying151
  · exact info_of (by kernel_rfl) Try.underlying186
  · exact info_of (by kernel_rfl) Try.underlying230
  · exact info_of (by kernel_rfl) Try.underlying232
  · exact info_of (by kernel_rfl) Try.underlying240

noncomputable def fns : List (Nat × Func) := [(112, Try.f112), (48, Try.f48), (150, Try.f150), (151, Try.f151), (210, Try.f210), (153, Try.f153), (154, Try.f154), (133, Try.f133), (156, Try.f156), (155, Try.f155), (53, Try.f53), (103, Try.f103), (217, Try.f217), (122, Try.f122), (105, Try.f105), (130, Try.f130), (141, Try.f141), (55, Try.f55), (107, Try.f107), (58, Try.f58), (142, Try.f142), (108, Try.f108), (227, Try.f227), (149, Try.f149), (152, Try.f152), (163, Try.f163), (59, Try.f59), (159, Try.f159), (51, Try.f51), (268, Try.f268), (226, Try.f226), (228, Try.f228), (160, Try.f160), (56, Try.f56), (52, Try.f52), (157, Try.f157), (158, Try.f158), (54, Try.f54), (144, Try.f144), (219, Try.f219), (145, Try.f145), (269, Try.f269), (270, Try.f270), (229, Try.f229), (161, Try.f161), (162, Try.f162), (57, Try.f57), (60, Try.f60), (8, Try.f8)]

theorem fns_ok : ∀ p ∈ fns, Try.prog.funcs[p.1]? = some p.2 ∧ (p.2.name == "runtime.NumGoroutine") = false ∧ drawsF [8, 48, 51, 52, 53, 54, 58, 59, 60, 107, 112, 133, 149, 151, 152, 156, 157, 158, 159, 161, 163, 226, 229, 269, 270, 2000025, 2000042, 2000054, 2000066, 2000131, 2000136, 2000232, 2000250, 2000272, 2000278, 3000052] [55, 56, 57, 144] p.2 = true := by
  intro p hp
  simp only [fns, List.mem_cons, List.not_mem_nil, or_false] at hp
  rcases hp with rfl | rfl | rfl | rfl | rfl | rfl | rfl | rfl | rfl | rfl | rfl | rfl | rfl | rfl | rfl | rfl | rfl | rfl | rfl | rfl | rfl | rfl | rfl | rfl | rfl | rfl | rfl | rfl | rfl | rfl | rfl | rfl | rfl | rfl | rfl | rfl | rfl | rfl | rfl | rfl | rfl | rfl | rfl | rfl | rfl | rfl | rfl | rfl | rfl
  · exact ⟨Try.func112, by kernel_rfl, by kernel_rfl⟩
  · exact ⟨Try.func48, by kernel_rfl, by kernel_rfl⟩
  · exact ⟨Try.func150, by kernel_rfl, by kernel_rfl⟩
  · exact ⟨Try.func151, by kernel_rfl, by kernel_rfl⟩
  · exact ⟨Try.func210, by kernel_rfl, by kernel_rfl⟩
  · exact ⟨Try.func153, by kernel_rfl, by kernel_rfl⟩
  · exact ⟨Try.func154, by kernel_rfl, by kernel_rfl⟩
  · exact ⟨Try.func133, by kernel_rfl, by kernel_rfl⟩
  · exact ⟨Try.func156, by kernel_rfl, by kernel_rfl⟩
  · exact ⟨Try.func155, by kernel_rfl, by kernel_rfl⟩
  · exact ⟨Try.func53, by kernel_rfl, by kernel_rfl⟩
  · exact ⟨Try.func103, by kernel_rfl, by kernel_rfl⟩
  · exact ⟨Try.func217, by kernel_rfl, by kernel_rfl⟩
  · exact ⟨Try.func122, by kernel_rfl, by kernel_rfl⟩
  · exact ⟨Try.func105, by kernel_rfl, by kernel_rfl⟩
  · exact ⟨Try.func130, by kernel_rfl, by kernel_rfl⟩
  · exact ⟨Try.func141, by kernel_rfl, by kernel_rfl⟩
  · exact ⟨Try.func55, by kernel_rfl, by kernel_rfl⟩
  · exact ⟨Try.func107, by kernel_rfl, by kernel_rfl⟩
  · exact ⟨Try.func58, by kernel_rfl, by kernel_rfl⟩
  · exact ⟨Try.func142, by kernel_rfl, by kernel_rfl⟩
  · exact ⟨Try.func108, by kernel_rfl, by kernel_rfl⟩
  · exact ⟨Try.func227, by kernel_rfl, by kernel_rfl⟩
  · exact ⟨Try.func149, by kernel_rfl, by kernel_rfl⟩
  · exact ⟨Try.func152, by kernel_rfl, by kernel_rfl⟩
  · exact ⟨Try.func163, by kernel_rfl, by kernel_rfl⟩
  · exact ⟨Try.func59, by kernel_rfl, by kernel_rfl⟩
  · exact ⟨Try.func159, by kernel_rfl, by kernel_rfl⟩
  · exact ⟨Try.func51, by kernel_rfl, by kernel_rfl⟩
  · exact ⟨Try.func268, by kernel_rfl, by kernel_rfl⟩
  · exact ⟨Try.func226, by kernel_rfl, by kernel_rfl⟩
  · exact ⟨Try.func228, by kernel_rfl, by kernel_rfl⟩
  · exact ⟨Try.func160, by kernel_rfl, by kernel_rfl⟩
  · exact ⟨Try.func56, by kernel_rfl, by kernel_rfl⟩
  · exact ⟨Try.func52, by kernel_rfl, by kernel_rfl⟩
  · exact ⟨Try.func157, by kernel_rfl, by kernel_rfl⟩
  · exact ⟨Try.func158, by kernel_rfl, by kernel_rfl⟩
  · exact ⟨Try.func54, by kernel_rfl, by kernel_rfl⟩
  · exact ⟨Try.func144, by kernel_rfl, by kernel_rfl⟩
  · exact ⟨Try.func219, by kernel_rfl, by kernel_rfl⟩
  · exact ⟨Try.func145, by kernel_rfl, by kernel_rfl⟩
  · exact ⟨Try.func269, by kernel_rfl, by kernel_rfl⟩
  · exact ⟨Try.func270, by kernel_rfl, by kernel_rfl⟩
  · exact ⟨Try.func229, by kernel_rfl, by kernel_rfl⟩
  · exact ⟨Try.func161, by kernel_rfl, by kernel_rfl⟩
  · exact ⟨Try.func162, by kernel_rfl, by kernel_rfl⟩
  · exact ⟨Try.func57, by kernel_rfl, by kernel_rfl⟩
  · exact ⟨Try.func60, by kernel_rfl, by kernel_rfl⟩
  · exact ⟨Try.func8, by kernel_rfl, by kernel_rfl⟩

noncomputable def ext : List (Nat × (List V → Fo → Option (V × Fo))) := [(211, extClone 2 ⟨(Go.TypeDesc.int Go.IntKind.i64), 1, 8, (.int .i64 0)⟩),
  (224, extClone 4 ⟨Go.TypeDesc.bool, 1, 1, (.bool false)⟩)]

theorem ext_ok : ∀ p ∈ ext, ExtOK Try.prog p.1 p.2 := by
  intro p hp
  simp only [ext, List.mem_cons, List.not_mem_nil, or_false] at hp
  rcases hp with rfl | rfl
  · exact ext_clone (s := 23) (b := 4) (clone_lays (is := ⟨(Go.TypeDesc.slice 2), 1, 24, (.slice none 0 0)⟩) (ib := ⟨Go.TypeDesc.bool, 1, 1, (.bool false)⟩) (by kernel_rfl) ⟨_, by kernel_rfl, Try.func211⟩ (look_all tys_ok 23 _ rfl) (look_all tys_ok 4 _ rfl) rfl rfl rfl rfl rfl rfl) ⟨Try.f211, Try.func211, by kernel_rfl, by kernel_rfl⟩ (look_all tys_ok 2 _ rfl) rfl
  · exact ext_clone (s := 52) (b := 4) (clone_lays (is := ⟨(Go.TypeDesc.slice 4), 1, 24, (.slice none 0 0)⟩) (ib := ⟨Go.TypeDesc.bool, 1, 1, (.bool false)⟩) (by kernel_rfl) ⟨_, by kernel_rfl, Try.func224⟩ (look_all tys_ok 52 _ rfl) (look_all tys_ok 4 _ rfl) rfl rfl rfl rfl rfl rfl) ⟨Try.f224, Try.func224, by kernel_rfl, by kernel_rfl⟩ (look_all tys_ok 4 _ rfl) rfl

noncomputable def eqs : List (Nat × List (Nat × Nat)) := []

theorem eqs_ok : ∀ p ∈ eqs, Try.prog.stoodInHeld p.1 = false ∧ Try.prog.eqGuardType Try.prog.depth p.1 = false ∧ (∃ fs, Try.prog.underlying p.1 = some (.struct fs) ∧ eqFits Try.prog fs.toList p.2 = true) := by
  intro p hp
  exact absurd hp List.not_mem_nil

noncomputable def E : Env := { tys := tys, fns := fns, own := [105, 142, 145, 153, 154, 219, 226], keep := [(48, [(5, [1, 3, 4])]), (150, [(3, [0, 2, 7, 10, 11, 12])]), (210, [(2, [0, 1, 7, 8])]), (153, [(5, [0, 1, 5, 6])]), (154, [(3, [1, 5, 8, 9])]), (133, [(2, [0, 1, 7, 8])]), (141, [(3, [0, 2, 3, 4])]), (58, [(5, [1, 33, 34, 35])]), (52, [(3, [0, 1, 2, 7, 8])]), (158, [(2, [0, 1, 5])]), (54, [(3, [0, 1, 2, 7, 8])]), (144, [(3, [1, 3, 4])]), (269, [(2, [0, 3])]), (270, [(5, [0, 1, 7, 8, 9, 10])]), (60, [(4, [0, 1, 5])]), (8, [(18, [3, 4, 9, 10, 11])])], handN := [105, 108, 150, 162, 210], scal := [8, 48, 51, 52, 53, 54, 58, 59, 60, 107, 112, 133, 149, 151, 152, 156, 157, 158, 159, 161, 163, 226, 229, 269, 270, 2000025, 2000042, 2000054, 2000066, 2000131, 2000136, 2000232, 2000250, 2000272, 2000278, 3000052], pur := [55, 56, 57, 144], takeN := [153], ext := ext, eqs := eqs }

theorem ok : EnvOK E Try.prog := ⟨look_all tys_ok, look_all fns_ok, by kernel_rfl, look_all (l := tys) (Q := fun _ (i : TI) => i.zero.cells.size = i.size) (by
  intro p hp
  simp only [tys, List.mem_cons, List.not_mem_nil, or_false] at hp
  rcases hp with rfl | rfl | rfl | rfl | rfl | rfl | rfl | rfl | rfl | rfl | rfl | rfl | rfl | rfl | rfl | rfl <;> rfl), look_all ext_ok, look_all (l := eqs) (Q := fun t l => Try.prog.stoodInHeld t = false ∧ Try.prog.eqGuardType Try.prog.depth t = false ∧ (∃ fs, Try.prog.underlying t = some (.struct fs) ∧ eqFits Try.prog fs.toList l = true)) eqs_ok⟩

end Go.Proofs.Ytjbddmmammgmjaa.T21

/- The engine's tables for laws.FnExactInputsOf, and that they are the program's own; conditions: none. -/

import Derived.Test.YtcdgobimidmacaaEs
import Derived.Test.YtcdgobimidmacaaChecked
import Derived.KernelRfl
import Derived.Lib.Strings
import Derived.Lib.Slices
import Derived.Lib.Walk
import Derived.Lib.Bytealg
namespace Go.Proofs.Ytcdgobimidmacaa.T38
open Go.Proofs.YtcdgobimidmacaaE

noncomputable def tys : List (Nat × TI) := [(0, ⟨(Go.TypeDesc.tuple #[]), 1, 0, (.tuple #[])⟩),
  (2, ⟨(Go.TypeDesc.int Go.IntKind.i64), 1, 8, (.int .i64 0)⟩),
  (3, ⟨(Go.TypeDesc.int Go.IntKind.i64), 1, 8, (.int .i64 0)⟩),
  (4, ⟨Go.TypeDesc.bool, 1, 1, (.bool false)⟩),
  (5, ⟨(Go.TypeDesc.int Go.IntKind.u8), 1, 1, (.int .u8 0)⟩),
  (9, ⟨Go.TypeDesc.string, 1, 16, (.string ⟨#[]⟩)⟩),
  (20, ⟨(Go.TypeDesc.interface #[]), 1, 16, .nilIface⟩),
  (22, ⟨(Go.TypeDesc.slice 5), 1, 24, (.slice none 0 0)⟩),
  (79, ⟨(Go.TypeDesc.slice 182), 1, 24, (.slice none 0 0)⟩),
  (81, ⟨(Go.TypeDesc.struct #[{ name := "NextId", type := 2, offset := 0, embedded := Bool.false, tag := "", pkgPath := "", byteOffset := 0 }, { name := "LogZone", type := 2, offset := 1, embedded := Bool.false, tag := "", pkgPath := "", byteOffset := 8 }, { name := "LogSeq", type := 2, offset := 2, embedded := Bool.false, tag := "", pkgPath := "", byteOffset := 16 }, { name := "Tables", type := 79, offset := 3, embedded := Bool.false, tag := "", pkgPath := "", byteOffset := 24 }]), 4, 48, (.agg #[(.int .i64 0), (.int .i64 0), (.int .i64 0), (.slice none 0 0)])⟩),
  (84, ⟨(Go.TypeDesc.slice 170), 1, 24, (.slice none 0 0)⟩),
  (86, ⟨(Go.TypeDesc.struct #[{ name := "NextId", type := 2, offset := 0, embedded := Bool.false, tag := "", pkgPath := "", byteOffset := 0 }, { name := "LogZone", type := 2, offset := 1, embedded := Bool.false, tag := "", pkgPath := "", byteOffset := 8 }, { name := "LogSeq", type := 2, offset := 2, embedded := Bool.false, tag := "", pkgPath := "", byteOffset := 16 }, { name := "Tables", type := 84, offset := 3, embedded := Bool.false, tag := "", pkgPath := "", byteOffset := 24 }]), 4, 48, (.agg #[(.int .i64 0), (.int .i64 0), (.int .i64 0), (.slice none 0 0)])⟩),
  (147, ⟨(Go.TypeDesc.pointer 86), 1, 8, (.pointer none)⟩),
  (170, ⟨(Go.TypeDesc.struct #[{ name := "Id", type := 2, offset := 0, embedded := Bool.false, tag := "", pkgPath := "", byteOffset := 0 }, { name := "Level", type := 2, offset := 1, embedded := Bool.false, tag := "", pkgPath := "", byteOffset := 8 }, { name := "Zone", type := 2, offset := 2, embedded := Bool.false, tag := "", pkgPath := "", byteOffset := 16 }, { name := "Page", type := 2, offset := 3, embedded := Bool.false, tag := "", pkgPath := "", byteOffset := 24 }, { name := "Pages", type := 2, offset := 4, embedded := Bool.false, tag := "", pkgPath := "", byteOffset := 32 }, { name := "Low", type := 9, offset := 5, embedded := Bool.false, tag := "", pkgPath := "", byteOffset := 40 }, { name := "High", type := 9, offset := 6, embedded := Bool.false, tag := "", pkgPath := "", byteOffset := 56 }, { name := "First", type := 2, offset := 7, embedded := Bool.false, tag := "", pkgPath := "", byteOffset := 72 }, { name := "Last", type := 2, offset := 8, embedded := Bool.false, tag := "", pkgPath := "", byteOffset := 80 }, { name := "Records", type := 2, offset := 9, embedded := Bool.false, tag := "", pkgPath := "", byteOffset := 88 }]), 10, 96, (.agg #[(.int .i64 0), (.int .i64 0), (.int .i64 0), (.int .i64 0), (.int .i64 0), (.string ⟨#[]⟩), (.string ⟨#[]⟩), (.int .i64 0), (.int .i64 0), (.int .i64 0)])⟩),
  (182, ⟨(Go.TypeDesc.struct #[{ name := "Id", type := 2, offset := 0, embedded := Bool.false, tag := "", pkgPath := "", byteOffset := 0 }, { name := "Level", type := 2, offset := 1, embedded := Bool.false, tag := "", pkgPath := "", byteOffset := 8 }, { name := "Zone", type := 2, offset := 2, embedded := Bool.false, tag := "", pkgPath := "", byteOffset := 16 }, { name := "Page", type := 2, offset := 3, embedded := Bool.false, tag := "", pkgPath := "", byteOffset := 24 }, { name := "Pages", type := 2, offset := 4, embedded := Bool.false, tag := "", pkgPath := "", byteOffset := 32 }, { name := "Low", type := 9, offset := 5, embedded := Bool.false, tag := "", pkgPath := "", byteOffset := 40 }, { name := "High", type := 9, offset := 6, embedded := Bool.false, tag := "", pkgPath := "", byteOffset := 56 }, { name := "First", type := 2, offset := 7, embedded := Bool.false, tag := "", pkgPath := "", byteOffset := 72 }, { name := "Last", type := 2, offset := 8, embedded := Bool.false, tag := "", pkgPath := "", byteOffset := 80 }, { name := "Records", type := 2, offset := 9, embedded := Bool.false, tag := "", pkgPath := "", byteOffset := 88 }]), 10, 96, (.agg #[(.int .i64 0), (.int .i64 0), (.int .i64 0), (.int .i64 0), (.int .i64 0), (.string ⟨#[]⟩), (.string ⟨#[]⟩), (.int .i64 0), (.int .i64 0), (.int .i64 0)])⟩),
  (183, ⟨(Go.TypeDesc.pointer 170), 1, 8, (.pointer none)⟩),
  (192, ⟨(Go.TypeDesc.func #[170] #[4] Bool.false), 1, 8, .nilFunc⟩),
  (193, ⟨(Go.TypeDesc.tuple #[9, 9]), 1, 0, (.tuple #[(.string ⟨#[]⟩), (.string ⟨#[]⟩)])⟩),
  (198, ⟨(Go.TypeDesc.func #[170, 170] #[3] Bool.false), 1, 8, .nilFunc⟩),
  (207, ⟨(Go.TypeDesc.slice 84), 1, 24, (.slice none 0 0)⟩),
  (212, ⟨(Go.TypeDesc.slice 3), 1, 24, (.slice none 0 0)⟩)]

theorem tys_ok : ∀ p ∈ tys, ∃ ti, Try.prog.info? p.1 = some ti ∧ Try.prog.underlying p.1 = some p.2.desc ∧ ti.size = p.2.size ∧ ti.bytes = p.2.bytes ∧ ti.zero = some p.2.zero := by
  intro p hp
  simp only [tys, List.mem_cons, List.not_mem_nil, or_false] at hp
  rcases hp with rfl | rfl | rfl | rfl | rfl | rfl | rfl | rfl | rfl | rfl | rfl | rfl | rfl | rfl | rfl | rfl | rfl | rfl | rfl | rfl | rfl
  · exact info_of (by kernel_rfl) Try.underlying0
  · exact info_of (by kernel_rfl) Try.underlying2
  · exact info_of (by kernel_rfl) Try.underlying3
  · exact info_of (by kernel_rfl) Try.underlying4
  · exact info_of (by kernel_rfl) Try.underlying5
  · exact info_of (by kernel_rfl) Try.underlying9
  · exact info_of (by kernel_rfl) Try.underlying20
  · exact info_of (by kernel_rfl) Try.underlying22
  · exact info_of (by kernel_rfl) Try.underlying79
  · exact info_of (by kernel_rfl) Try.underlying81
  · exact info_of (by kernel_rfl) Try.underlying84
  · exact info_of (by kernel_rfl) Try.underlying86
  · exact info_of (by kernel_rfl) Try.underlying147
  · exact info_of (by kernel_rfl) Try.underlying170
  · exact info_of (by kernel_rfl) Try.underlying182
  · exact info_of (by kernel_rfl) Try.underlying183
  · exact info_of (by kernel_rfl) Try.underlying192
  · exact info_of (by kernel_rfl) Try.underlying193
  · exact info_of (by kernel_rfl) Try.underlying198
  · exact info_of (by kernel_rfl) Try.underlying207
  · exact info_of (by kernel_rfl) Try.underlying212

noncomputable def fns : List (Nat × Func) := [(181, Try.f181), (132, Try.f132), (60, Try.f60), (184, Try.f184), (135, Try.f135), (62, Try.f62), (158, Try.f158), (77, Try.f77), (64, Try.f64), (159, Try.f159), (79, Try.f79), (78, Try.f78), (80, Try.f80), (98, Try.f98), (182, Try.f182), (183, Try.f183), (133, Try.f133), (156, Try.f156), (190, Try.f190), (205, Try.f205), (191, Try.f191), (162, Try.f162), (87, Try.f87), (93, Try.f93), (199, Try.f199), (204, Try.f204), (200, Try.f200), (201, Try.f201), (213, Try.f213), (210, Try.f210), (211, Try.f211), (202, Try.f202), (185, Try.f185), (136, Try.f136), (187, Try.f187), (189, Try.f189), (157, Try.f157), (206, Try.f206), (208, Try.f208), (207, Try.f207), (192, Try.f192), (193, Try.f193), (194, Try.f194), (195, Try.f195), (163, Try.f163), (88, Try.f88), (14, Try.f14)]

theorem fns_ok : ∀ p ∈ fns, Try.prog.funcs[p.1]? = some p.2 ∧ (p.2.name == "runtime.NumGoroutine") = false ∧ drawsF [14, 60, 64, 77, 80, 93, 98, 132, 136, 158, 159, 181, 184, 185, 190, 193, 194, 199, 202, 205, 206, 208, 210, 211, 212, 213, 1000022] [62, 87, 88, 135, 157, 163, 192, 195] p.2 = true := by
  intro p hp
  simp only [fns, List.mem_cons, List.not_mem_nil, or_false] at hp
  rcases hp with rfl | rfl | rfl | rfl | rfl | rfl | rfl | rfl | rfl | rfl | rfl | rfl | rfl | rfl | rfl | rfl | rfl | rfl | rfl | rfl | rfl | rfl | rfl | rfl | rfl | rfl | rfl | rfl | rfl | rfl | rfl | rfl | rfl | rfl | rfl | rfl | rfl | rfl | rfl | rfl | rfl | rfl | rfl | rfl | rfl | rfl | rfl
  · exact ⟨Try.func181, by kernel_rfl, by kernel_rfl⟩
  · exact ⟨Try.func132, by kernel_rfl, by kernel_rfl⟩
  · exact ⟨Try.func60, by kernel_rfl, by kernel_rfl⟩
  · exact ⟨Try.func184, by kernel_rfl, by kernel_rfl⟩
  · exact ⟨Try.func135, by kernel_rfl, by kernel_rfl⟩
  · exact ⟨Try.func62, by kernel_rfl, by kernel_rfl⟩
  · exact ⟨Try.func158, by kernel_rfl, by kernel_rfl⟩
  · exact ⟨Try.func77, by kernel_rfl, by kernel_rfl⟩
  · exact ⟨Try.func64, by kernel_rfl, by kernel_rfl⟩
  · exact ⟨Try.func159, by kernel_rfl, by kernel_rfl⟩
  · exact ⟨Try.func79, by kernel_rfl, by kernel_rfl⟩
  · exact ⟨Try.func78, by kernel_rfl, by kernel_rfl⟩
  · exact ⟨Try.func80, by kernel_rfl, by kernel_rfl⟩
  · exact ⟨Try.func98, by kernel_rfl, by kernel_rfl⟩
  · exact ⟨Try.func182, by kernel_rfl, by kernel_rfl⟩
  · exact ⟨Try.func183, by kernel_rfl, by kernel_rfl⟩
  · exact ⟨Try.func133, by kernel_rfl, by kernel_rfl⟩
  · exact ⟨Try.func156, by kernel_rfl, by kernel_rfl⟩
  · exact ⟨Try.func190, by kernel_rfl, by kernel_rfl⟩
  · exact ⟨Try.func205, by kernel_rfl, by kernel_rfl⟩
  · exact ⟨Try.func191, by kernel_rfl, by kernel_rfl⟩
  · exact ⟨Try.func162, by kernel_rfl, by kernel_rfl⟩
  · exact ⟨Try.func87, by kernel_rfl, by kernel_rfl⟩
  · exact ⟨Try.func93, by kernel_rfl, by kernel_rfl⟩
  · exact ⟨Try.func199, by kernel_rfl, by kernel_rfl⟩
  · exact ⟨Try.func204, by kernel_rfl, by kernel_rfl⟩
  · exact ⟨Try.func200, by kernel_rfl, by kernel_rfl⟩
  · exact ⟨Try.func201, by kernel_rfl, by kernel_rfl⟩
  · exact ⟨Try.func213, by kernel_rfl, by kernel_rfl⟩
  · exact ⟨Try.func210, by kernel_rfl, by kernel_rfl⟩
  · exact ⟨Try.func211, by kernel_rfl, by kernel_rfl⟩
  · exact ⟨Try.func202, by kernel_rfl, by kernel_rfl⟩
  · exact ⟨Try.func185, by kernel_rfl, by kernel_rfl⟩
  · exact ⟨Try.func136, by kernel_rfl, by kernel_rfl⟩
  · exact ⟨Try.func187, by kernel_rfl, by kernel_rfl⟩
  · exact ⟨Try.func189, by kernel_rfl, by kernel_rfl⟩
  · exact ⟨Try.func157, by kernel_rfl, by kernel_rfl⟩
  · exact ⟨Try.func206, by kernel_rfl, by kernel_rfl⟩
  · exact ⟨Try.func208, by kernel_rfl, by kernel_rfl⟩
  · exact ⟨Try.func207, by kernel_rfl, by kernel_rfl⟩
  · exact ⟨Try.func192, by kernel_rfl, by kernel_rfl⟩
  · exact ⟨Try.func193, by kernel_rfl, by kernel_rfl⟩
  · exact ⟨Try.func194, by kernel_rfl, by kernel_rfl⟩
  · exact ⟨Try.func195, by kernel_rfl, by kernel_rfl⟩
  · exact ⟨Try.func163, by kernel_rfl, by kernel_rfl⟩
  · exact ⟨Try.func88, by kernel_rfl, by kernel_rfl⟩
  · exact ⟨Try.func14, by kernel_rfl, by kernel_rfl⟩

set_option maxHeartbeats 1000000 in
set_option maxRecDepth 100000 in
theorem bytealg_CompareString (a b : ByteArray) (w : World) :
    Calls Try.prog 214 #[.string a, .string b] w fun e w' => e = .returned (.int .i64 (Lib.compareBytes a.data.toList b.data.toList)) ∧ w' = w := by
  go_enter Try.func214, Try.ntmps214
  go_wp2
  rw [run_callFunc_extern Try.func215 (by kernel_rfl) (by kernel_rfl) (by kernel_rfl) (e := Extern.BytealgCompare.compare) (by kernel_rfl), Lib.run_compareString]
  simp only [Result.andThen]
  rw [Oper.upon_value]
  go_wp2
  go_ret
  exact ⟨rfl, rfl⟩

#print axioms bytealg_CompareString

set_option maxHeartbeats 1000000 in
theorem strings_Compare (a b : ByteArray) (w : World) :
    Calls Try.prog 212 #[.string a, .string b] w fun e w' => e = .returned (.int .i64 (Lib.compareBytes a.data.toList b.data.toList)) ∧ w' = w := by
  go_enter Try.func212, Try.ntmps212
  go_wp2_with (go_at_call 214; refine (bytealg_CompareString _ _ _).mono ?_; rintro e w' ⟨rfl, rfl⟩)
  go_ret
  exact ⟨rfl, rfl⟩

noncomputable def g212 : List V → Option V := fun args => match args with
  | [.d (.lit (.string a)), .d (.lit (.string b))] => some (.d (.lit (.int .i64 (Lib.compareBytes a.data.toList b.data.toList))))
  | _ => none

noncomputable def ext : List (Nat × (List V → Fo → Option (V × Fo))) := [(212, fun args F => match g212 args with | some v => some (v, F) | none => none),
  (188, extClone 170 ⟨(Go.TypeDesc.struct #[{ name := "Id", type := 2, offset := 0, embedded := Bool.false, tag := "", pkgPath := "", byteOffset := 0 }, { name := "Level", type := 2, offset := 1, embedded := Bool.false, tag := "", pkgPath := "", byteOffset := 8 }, { name := "Zone", type := 2, offset := 2, embedded := Bool.false, tag := "", pkgPath := "", byteOffset := 16 }, { name := "Page", type := 2, offset := 3, embedded := Bool.false, tag := "", pkgPath := "", byteOffset := 24 }, { name := "Pages", type := 2, offset := 4, embedded := Bool.false, tag := "", pkgPath := "", byteOffset := 32 }, { name := "Low", type := 9, offset := 5, embedded := Bool.false, tag := "", pkgPath := "", byteOffset := 40 }, { name := "High", type := 9, offset := 6, embedded := Bool.false, tag := "", pkgPath := "", byteOffset := 56 }, { name := "First", type := 2, offset := 7, embedded := Bool.false, tag := "", pkgPath := "", byteOffset := 72 }, { name := "Last", type := 2, offset := 8, embedded := Bool.false, tag := "", pkgPath := "", byteOffset := 80 }, { name := "Records", type := 2, offset := 9, embedded := Bool.false, tag := "", pkgPath := "", byteOffset := 88 }]), 10, 96, (.agg #[(.int .i64 0), (.int .i64 0), (.int .i64 0), (.int .i64 0), (.int .i64 0), (.string ⟨#[]⟩), (.string ⟨#[]⟩), (.int .i64 0), (.int .i64 0), (.int .i64 0)])⟩),
  (209, extGrow 170 ⟨(Go.TypeDesc.struct #[{ name := "Id", type := 2, offset := 0, embedded := Bool.false, tag := "", pkgPath := "", byteOffset := 0 }, { name := "Level", type := 2, offset := 1, embedded := Bool.false, tag := "", pkgPath := "", byteOffset := 8 }, { name := "Zone", type := 2, offset := 2, embedded := Bool.false, tag := "", pkgPath := "", byteOffset := 16 }, { name := "Page", type := 2, offset := 3, embedded := Bool.false, tag := "", pkgPath := "", byteOffset := 24 }, { name := "Pages", type := 2, offset := 4, embedded := Bool.false, tag := "", pkgPath := "", byteOffset := 32 }, { name := "Low", type := 9, offset := 5, embedded := Bool.false, tag := "", pkgPath := "", byteOffset := 40 }, { name := "High", type := 9, offset := 6, embedded := Bool.false, tag := "", pkgPath := "", byteOffset := 56 }, { name := "First", type := 2, offset := 7, embedded := Bool.false, tag := "", pkgPath := "", byteOffset := 72 }, { name := "Last", type := 2, offset := 8, embedded := Bool.false, tag := "", pkgPath := "", byteOffset := 80 }, { name := "Records", type := 2, offset := 9, embedded := Bool.false, tag := "", pkgPath := "", byteOffset := 88 }]), 10, 96, (.agg #[(.int .i64 0), (.int .i64 0), (.int .i64 0), (.int .i64 0), (.int .i64 0), (.string ⟨#[]⟩), (.string ⟨#[]⟩), (.int .i64 0), (.int .i64 0), (.int .i64 0)])⟩)]

theorem ext_ok : ∀ p ∈ ext, ExtOK Try.prog p.1 p.2 := by
  intro p hp
  simp only [ext, List.mem_cons, List.not_mem_nil, or_false] at hp
  rcases hp with rfl | rfl | rfl
  · exact ext_scal ⟨Try.f212, Try.func212, by kernel_rfl, by kernel_rfl⟩ (fun args v h => by
      unfold g212 at h
      split at h
      · injection h with h
        subst h
        exact ⟨rfl, _, rfl, rfl, fun w => strings_Compare _ _ w⟩
      · simp at h)
  · exact ext_clone (s := 84) (b := 4) (clone_lays (is := ⟨(Go.TypeDesc.slice 170), 1, 24, (.slice none 0 0)⟩) (ib := ⟨Go.TypeDesc.bool, 1, 1, (.bool false)⟩) (by kernel_rfl) ⟨_, by kernel_rfl, Try.func188⟩ (look_all tys_ok 84 _ rfl) (look_all tys_ok 4 _ rfl) rfl rfl rfl rfl rfl rfl) ⟨Try.f188, Try.func188, by kernel_rfl, by kernel_rfl⟩ (look_all tys_ok 170 _ rfl) rfl
  · exact ext_grow (s := 84) (tu := 0) (it := 3) (bo := 4) (st := 9) (ic := 20) (grow_lays (by kernel_rfl) ⟨_, by kernel_rfl, Try.func209⟩ (look_all tys_ok 84 _ rfl) (look_all tys_ok 0 _ rfl) (look_all tys_ok 3 _ rfl) (look_all tys_ok 4 _ rfl) (look_all tys_ok 9 _ rfl) (look_all tys_ok 20 _ rfl) rfl rfl rfl rfl rfl rfl rfl rfl rfl rfl rfl rfl rfl rfl rfl rfl rfl rfl ) ⟨Try.f209, Try.func209, by kernel_rfl, by kernel_rfl⟩ (look_all tys_ok 170 _ rfl) rfl

noncomputable def E : Env := { tys := tys, fns := fns, own := [135, 62, 187, 156, 157, 192, 195, 163, 88], keep := [(132, [(5, [0, 1, 5])]), (135, [(3, [0, 3, 4])]), (77, [(4, [0, 1, 5])]), (159, [(4, [0, 3])]), (79, [(2, [0, 1, 5])]), (80, [(2, [0, 1, 5])]), (133, [(4, [0, 3]), (10, [0, 3, 4, 5])]), (156, [(3, [0, 1, 5, 6])]), (190, [(4, [0, 4, 5, 6])]), (191, [(4, [2, 3, 9, 10, 11])]), (162, [(7, [0, 1, 5, 6, 7])]), (204, [(2, [0, 1, 7, 8])]), (211, [(3, [3, 6, 7, 8])]), (185, [(2, [1, 7, 8, 9])]), (187, [(5, [0, 1, 5, 6])]), (206, [(5, [4, 5, 19, 20, 21])]), (193, [(5, [0, 1, 4, 5, 6])]), (195, [(3, [0, 3, 9, 10, 11]), (11, [6, 25, 26, 27])])], handN := [204, 188, 157, 192, 163, 88, 78, 79], scal := [14, 60, 64, 77, 80, 93, 98, 132, 136, 158, 159, 181, 184, 185, 190, 193, 194, 199, 202, 205, 206, 208, 210, 211, 212, 213, 1000022], pur := [62, 87, 88, 135, 157, 163, 192, 195], takeN := [187], ext := ext }

theorem ok : EnvOK E Try.prog := ⟨look_all tys_ok, look_all fns_ok, by kernel_rfl, look_all (l := tys) (Q := fun _ (i : TI) => i.zero.cells.size = i.size) (by
  intro p hp
  simp only [tys, List.mem_cons, List.not_mem_nil, or_false] at hp
  rcases hp with rfl | rfl | rfl | rfl | rfl | rfl | rfl | rfl | rfl | rfl | rfl | rfl | rfl | rfl | rfl | rfl | rfl | rfl | rfl | rfl | rfl <;> rfl), look_all ext_ok⟩

end Go.Proofs.Ytcdgobimidmacaa.T38

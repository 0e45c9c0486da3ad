/- The engine's tables for laws.FnMemtable, and that they are the program's own; conditions: none. -/

import Derived.Test.YtphcdalhdfbamaaEsi
import Derived.Test.YtphcdalhdfbamaaChecked
import Derived.KernelRfl
import Derived.Lib.Strings
import Derived.Lib.Slices
import Derived.Lib.Walk
import Derived.Lib.Bytealg
namespace Go.Proofs.Ytphcdalhdfbamaa.T05
open Go.Proofs.YtphcdalhdfbamaaE

noncomputable def tys : List (Nat × TI) := [(0, ⟨(Go.TypeDesc.tuple #[]), 1, 0, (.tuple #[])⟩),
  (2, ⟨(Go.TypeDesc.int Go.IntKind.i64), 1, 8, (.int .i64 0)⟩),
  (3, ⟨(Go.TypeDesc.int Go.IntKind.i64), 1, 8, (.int .i64 0)⟩),
  (4, ⟨Go.TypeDesc.bool, 1, 1, (.bool false)⟩),
  (5, ⟨(Go.TypeDesc.int Go.IntKind.u8), 1, 1, (.int .u8 0)⟩),
  (9, ⟨Go.TypeDesc.string, 1, 16, (.string ⟨#[]⟩)⟩),
  (22, ⟨(Go.TypeDesc.slice 5), 1, 24, (.slice none 0 0)⟩),
  (23, ⟨(Go.TypeDesc.slice 30), 1, 24, (.slice none 0 0)⟩),
  (25, ⟨(Go.TypeDesc.slice 2), 1, 24, (.slice none 0 0)⟩),
  (30, ⟨(Go.TypeDesc.struct #[{ name := "Key", type := 9, offset := 0, embedded := Bool.false, tag := "", pkgPath := "", byteOffset := 0 }, { name := "Seq", type := 2, offset := 1, embedded := Bool.false, tag := "", pkgPath := "", byteOffset := 16 }, { name := "Kind", type := 2, offset := 2, embedded := Bool.false, tag := "", pkgPath := "", byteOffset := 24 }, { name := "Value", type := 9, offset := 3, embedded := Bool.false, tag := "", pkgPath := "", byteOffset := 32 }, { name := "End", type := 9, offset := 4, embedded := Bool.false, tag := "", pkgPath := "", byteOffset := 48 }]), 5, 64, (.agg #[(.string ⟨#[]⟩), (.int .i64 0), (.int .i64 0), (.string ⟨#[]⟩), (.string ⟨#[]⟩)])⟩),
  (47, ⟨(Go.TypeDesc.tuple #[23, 2]), 1, 0, (.tuple #[(.slice none 0 0), (.int .i64 0)])⟩),
  (57, ⟨(Go.TypeDesc.slice 9), 1, 24, (.slice none 0 0)⟩),
  (62, ⟨(Go.TypeDesc.tuple #[30, 4]), 1, 0, (.tuple #[(.agg #[(.string ⟨#[]⟩), (.int .i64 0), (.int .i64 0), (.string ⟨#[]⟩), (.string ⟨#[]⟩)]), (.bool false)])⟩),
  (74, ⟨(Go.TypeDesc.func #[30] #[4] Bool.false), 1, 8, .nilFunc⟩),
  (101, ⟨(Go.TypeDesc.pointer 155), 1, 8, (.pointer none)⟩),
  (105, ⟨(Go.TypeDesc.map 2 4), 1, 8, (.map none)⟩),
  (122, ⟨(Go.TypeDesc.tuple #[3, 4]), 1, 0, (.tuple #[(.int .i64 0), (.bool false)])⟩),
  (130, ⟨(Go.TypeDesc.func #[30, 30] #[3] Bool.false), 1, 8, .nilFunc⟩),
  (153, ⟨(Go.TypeDesc.int Go.IntKind.u64), 1, 8, (.int .u64 0)⟩),
  (155, ⟨(Go.TypeDesc.struct #[{ name := "code", type := 22, offset := 0, embedded := Bool.false, tag := "", pkgPath := "loop.example/g00905/spec", byteOffset := 0 }, { name := "at", type := 3, offset := 1, embedded := Bool.false, tag := "", pkgPath := "loop.example/g00905/spec", byteOffset := 24 }, { name := "seed", type := 153, offset := 2, embedded := Bool.false, tag := "", pkgPath := "loop.example/g00905/spec", byteOffset := 32 }]), 3, 40, (.agg #[(.slice none 0 0), (.int .i64 0), (.int .u64 0)])⟩),
  (193, ⟨(Go.TypeDesc.int Go.IntKind.u64), 1, 8, (.int .u64 0)⟩),
  (207, ⟨(Go.TypeDesc.slice 3), 1, 24, (.slice none 0 0)⟩)]

theorem tys_ok : ∀ p ∈ tys, ∃ ti, Try.prog.info? p.1 = some ti ∧ Try.prog.underlying p.1 = some p.2.desc ∧ ti.size = p.2.size ∧ ti.bytes = p.2.bytes ∧ ti.zero = some p.2.zero := by
  intro p hp
  simp only [tys, List.mem_cons, List.not_mem_nil, or_false] at hp
  rcases hp with rfl | rfl | rfl | rfl | rfl | rfl | rfl | rfl | rfl | rfl | rfl | rfl | rfl | rfl | rfl | rfl | rfl | rfl | rfl | rfl | rfl | rfl
  · exact info_of (by kernel_rfl) Try.underlying0
  · exact info_of (by kernel_rfl) Try.underlying2
  · exact info_of (by kernel_rfl) Try.underlying3
  · exact info_of (by kernel_rfl) Try.underlying4
  · exact info_of (by kernel_rfl) Try.underlying5
  · exact info_of (by kernel_rfl) Try.underlying9
  · exact info_of (by kernel_rfl) Try.underlying22
  · exact info_of (by kernel_rfl) Try.underlying23
  · exact info_of (by kernel_rfl) Try.underlying25
  · exact info_of (by kernel_rfl) Try.underlying30
  · exact info_of (by kernel_rfl) Try.underlying47
  · exact info_of (by kernel_rfl) Try.underlying57
  · exact info_of (by kernel_rfl) Try.underlying62
  · exact info_of (by kernel_rfl) Try.underlying74
  · exact info_of (by kernel_rfl) Try.underlying101
  · exact info_of (by kernel_rfl) Try.underlying105
  · exact info_of (by kernel_rfl) Try.underlying122
  · exact info_of (by kernel_rfl) Try.underlying130
  · exact info_of (by kernel_rfl) Try.underlying153
  · exact info_of (by kernel_rfl) Try.underlying155
  · exact info_of (by kernel_rfl) Try.underlying193
  · exact info_of (by kernel_rfl) Try.underlying207

noncomputable def fns : List (Nat × Func) := [(204, Try.f204), (126, Try.f126), (176, Try.f176), (99, Try.f99), (161, Try.f161), (127, Try.f127), (134, Try.f134), (160, Try.f160), (80, Try.f80), (81, Try.f81), (14, Try.f14), (17, Try.f17), (16, Try.f16), (30, Try.f30), (31, Try.f31), (205, Try.f205), (234, Try.f234), (206, Try.f206), (128, Try.f128), (51, Try.f51), (173, Try.f173), (119, Try.f119), (88, Try.f88), (20, Try.f20), (42, Try.f42), (101, Try.f101), (170, Try.f170), (192, Try.f192), (116, Try.f116), (193, Try.f193), (117, Try.f117), (41, Try.f41), (172, Try.f172), (120, Try.f120), (43, Try.f43), (147, Try.f147), (162, Try.f162), (133, Try.f133), (148, Try.f148), (66, Try.f66), (44, Try.f44), (7, Try.f7)]

theorem fns_ok : ∀ p ∈ fns, Try.prog.funcs[p.1]? = some p.2 ∧ (p.2.name == "runtime.NumGoroutine") = false ∧ drawsF [7, 17, 20, 30, 31, 42, 43, 44, 51, 66, 88, 116, 117, 119, 120, 128, 133, 134, 147, 148, 162, 172, 173, 200, 205, 206, 234, 2000135, 2000155, 2000167, 3000023] [14, 16, 41, 160] p.2 = true := by
  intro p hp
  simp only [fns, List.mem_cons, List.not_mem_nil, or_false] at hp
  rcases hp with rfl | rfl | rfl | rfl | rfl | rfl | rfl | rfl | rfl | rfl | rfl | rfl | rfl | rfl | rfl | rfl | rfl | rfl | rfl | rfl | rfl | rfl | rfl | rfl | rfl | rfl | rfl | rfl | rfl | rfl | rfl | rfl | rfl | rfl | rfl | rfl | rfl | rfl | rfl | rfl | rfl | rfl
  · exact ⟨Try.func204, by kernel_rfl, by kernel_rfl⟩
  · exact ⟨Try.func126, by kernel_rfl, by kernel_rfl⟩
  · exact ⟨Try.func176, by kernel_rfl, by kernel_rfl⟩
  · exact ⟨Try.func99, by kernel_rfl, by kernel_rfl⟩
  · exact ⟨Try.func161, by kernel_rfl, by kernel_rfl⟩
  · exact ⟨Try.func127, by kernel_rfl, by kernel_rfl⟩
  · exact ⟨Try.func134, by kernel_rfl, by kernel_rfl⟩
  · exact ⟨Try.func160, by kernel_rfl, by kernel_rfl⟩
  · exact ⟨Try.func80, by kernel_rfl, by kernel_rfl⟩
  · exact ⟨Try.func81, by kernel_rfl, by kernel_rfl⟩
  · exact ⟨Try.func14, by kernel_rfl, by kernel_rfl⟩
  · exact ⟨Try.func17, by kernel_rfl, by kernel_rfl⟩
  · exact ⟨Try.func16, by kernel_rfl, by kernel_rfl⟩
  · exact ⟨Try.func30, by kernel_rfl, by kernel_rfl⟩
  · exact ⟨Try.func31, by kernel_rfl, by kernel_rfl⟩
  · exact ⟨Try.func205, by kernel_rfl, by kernel_rfl⟩
  · exact ⟨Try.func234, by kernel_rfl, by kernel_rfl⟩
  · exact ⟨Try.func206, by kernel_rfl, by kernel_rfl⟩
  · exact ⟨Try.func128, by kernel_rfl, by kernel_rfl⟩
  · exact ⟨Try.func51, by kernel_rfl, by kernel_rfl⟩
  · exact ⟨Try.func173, by kernel_rfl, by kernel_rfl⟩
  · exact ⟨Try.func119, by kernel_rfl, by kernel_rfl⟩
  · exact ⟨Try.func88, by kernel_rfl, by kernel_rfl⟩
  · exact ⟨Try.func20, by kernel_rfl, by kernel_rfl⟩
  · exact ⟨Try.func42, by kernel_rfl, by kernel_rfl⟩
  · exact ⟨Try.func101, by kernel_rfl, by kernel_rfl⟩
  · exact ⟨Try.func170, by kernel_rfl, by kernel_rfl⟩
  · exact ⟨Try.func192, by kernel_rfl, by kernel_rfl⟩
  · exact ⟨Try.func116, by kernel_rfl, by kernel_rfl⟩
  · exact ⟨Try.func193, by kernel_rfl, by kernel_rfl⟩
  · exact ⟨Try.func117, by kernel_rfl, by kernel_rfl⟩
  · exact ⟨Try.func41, by kernel_rfl, by kernel_rfl⟩
  · exact ⟨Try.func172, by kernel_rfl, by kernel_rfl⟩
  · exact ⟨Try.func120, by kernel_rfl, by kernel_rfl⟩
  · exact ⟨Try.func43, by kernel_rfl, by kernel_rfl⟩
  · exact ⟨Try.func147, by kernel_rfl, by kernel_rfl⟩
  · exact ⟨Try.func162, by kernel_rfl, by kernel_rfl⟩
  · exact ⟨Try.func133, by kernel_rfl, by kernel_rfl⟩
  · exact ⟨Try.func148, by kernel_rfl, by kernel_rfl⟩
  · exact ⟨Try.func66, by kernel_rfl, by kernel_rfl⟩
  · exact ⟨Try.func44, by kernel_rfl, by kernel_rfl⟩
  · exact ⟨Try.func7, by kernel_rfl, by kernel_rfl⟩

set_option maxHeartbeats 1000000 in
set_option maxRecDepth 100000 in
theorem bytealg_CompareString (a b : ByteArray) (w : World) :
    Calls Try.prog 230 #[.string a, .string b] w fun e w' => e = .returned (.int .i64 (Lib.compareBytes a.data.toList b.data.toList)) ∧ w' = w := by
  go_enter Try.func230, Try.ntmps230
  go_wp2
  rw [run_callFunc_extern Try.func249 (by kernel_rfl) (by kernel_rfl) (by kernel_rfl) (e := Extern.BytealgCompare.compare) (by kernel_rfl), Lib.run_compareString]
  simp only [Result.andThen]
  rw [Oper.upon_value]
  go_wp2
  go_ret
  exact ⟨rfl, rfl⟩

#print axioms bytealg_CompareString

set_option maxHeartbeats 1000000 in
theorem strings_Compare (a b : ByteArray) (w : World) :
    Calls Try.prog 200 #[.string a, .string b] w fun e w' => e = .returned (.int .i64 (Lib.compareBytes a.data.toList b.data.toList)) ∧ w' = w := by
  go_enter Try.func200, Try.ntmps200
  go_wp2_with (go_at_call 230; refine (bytealg_CompareString _ _ _).mono ?_; rintro e w' ⟨rfl, rfl⟩)
  go_ret
  exact ⟨rfl, rfl⟩

noncomputable def g200 : List V → Option V := fun args => match args with
  | [.d (.lit (.string a)), .d (.lit (.string b))] => some (.d (.lit (.int .i64 (Lib.compareBytes a.data.toList b.data.toList))))
  | _ => none

noncomputable def ext : List (Nat × (List V → Fo → Option (V × Fo))) := [(200, fun args F => match g200 args with | some v => some (v, F) | none => none),
  (107, extClone 30 ⟨(Go.TypeDesc.struct #[{ name := "Key", type := 9, offset := 0, embedded := Bool.false, tag := "", pkgPath := "", byteOffset := 0 }, { name := "Seq", type := 2, offset := 1, embedded := Bool.false, tag := "", pkgPath := "", byteOffset := 16 }, { name := "Kind", type := 2, offset := 2, embedded := Bool.false, tag := "", pkgPath := "", byteOffset := 24 }, { name := "Value", type := 9, offset := 3, embedded := Bool.false, tag := "", pkgPath := "", byteOffset := 32 }, { name := "End", type := 9, offset := 4, embedded := Bool.false, tag := "", pkgPath := "", byteOffset := 48 }]), 5, 64, (.agg #[(.string ⟨#[]⟩), (.int .i64 0), (.int .i64 0), (.string ⟨#[]⟩), (.string ⟨#[]⟩)])⟩),
  (118, extInsert 30 ⟨(Go.TypeDesc.struct #[{ name := "Key", type := 9, offset := 0, embedded := Bool.false, tag := "", pkgPath := "", byteOffset := 0 }, { name := "Seq", type := 2, offset := 1, embedded := Bool.false, tag := "", pkgPath := "", byteOffset := 16 }, { name := "Kind", type := 2, offset := 2, embedded := Bool.false, tag := "", pkgPath := "", byteOffset := 24 }, { name := "Value", type := 9, offset := 3, embedded := Bool.false, tag := "", pkgPath := "", byteOffset := 32 }, { name := "End", type := 9, offset := 4, embedded := Bool.false, tag := "", pkgPath := "", byteOffset := 48 }]), 5, 64, (.agg #[(.string ⟨#[]⟩), (.int .i64 0), (.int .i64 0), (.string ⟨#[]⟩), (.string ⟨#[]⟩)])⟩)]

theorem ext_ok : ∀ p ∈ ext, ExtOK Try.prog p.1 p.2 := by
  intro p hp
  simp only [ext, List.mem_cons, List.not_mem_nil, or_false] at hp
  rcases hp with rfl | rfl | rfl
  · exact ext_scal ⟨Try.f200, Try.func200, by kernel_rfl, by kernel_rfl⟩ (fun args v h => by
      unfold g200 at h
      split at h
      · injection h with h
        subst h
        exact ⟨rfl, _, rfl, rfl, fun w => strings_Compare _ _ w⟩
      · simp at h)
  · exact ext_clone (s := 23) (b := 4) (clone_lays (is := ⟨(Go.TypeDesc.slice 30), 1, 24, (.slice none 0 0)⟩) (ib := ⟨Go.TypeDesc.bool, 1, 1, (.bool false)⟩) (by kernel_rfl) ⟨_, by kernel_rfl, Try.func107⟩ (look_all tys_ok 23 _ rfl) (look_all tys_ok 4 _ rfl) rfl rfl rfl rfl rfl rfl) ⟨Try.f107, Try.func107, by kernel_rfl, by kernel_rfl⟩ (look_all tys_ok 30 _ rfl) rfl
  · exact ext_insert (ρ := renI 118 23 30 0 3 4 194 195) rfl (insert_lays (is := ⟨(Go.TypeDesc.slice 30), 1, 24, (.slice none 0 0)⟩) (ii := ⟨(Go.TypeDesc.int Go.IntKind.i64), 1, 8, (.int .i64 0)⟩) (ib := ⟨Go.TypeDesc.bool, 1, 1, (.bool false)⟩) (ie := ⟨(Go.TypeDesc.struct #[{ name := "Key", type := 9, offset := 0, embedded := Bool.false, tag := "", pkgPath := "", byteOffset := 0 }, { name := "Seq", type := 2, offset := 1, embedded := Bool.false, tag := "", pkgPath := "", byteOffset := 16 }, { name := "Kind", type := 2, offset := 2, embedded := Bool.false, tag := "", pkgPath := "", byteOffset := 24 }, { name := "Value", type := 9, offset := 3, embedded := Bool.false, tag := "", pkgPath := "", byteOffset := 32 }, { name := "End", type := 9, offset := 4, embedded := Bool.false, tag := "", pkgPath := "", byteOffset := 48 }]), 5, 64, (.agg #[(.string ⟨#[]⟩), (.int .i64 0), (.int .i64 0), (.string ⟨#[]⟩), (.string ⟨#[]⟩)])⟩) (by kernel_rfl) ⟨_, by kernel_rfl, Try.func118⟩ Try.func194 (by kernel_rfl) (by kernel_rfl) (by kernel_rfl) (by kernel_rfl) (look_all tys_ok 23 _ rfl) (look_all tys_ok 3 _ rfl) (look_all tys_ok 4 _ rfl) (look_all tys_ok 30 _ rfl) rfl rfl rfl rfl rfl rfl rfl rfl rfl) ⟨Try.f118, Try.func118, by kernel_rfl, by kernel_rfl⟩ (look_all tys_ok 30 _ rfl) rfl (by decide)

noncomputable def eqs : List (Nat × List (Nat × Nat)) := [(30, [(0, 2), (1, 0), (2, 0), (3, 2), (4, 2)])]

theorem eqs_ok : ∀ p ∈ eqs, Try.prog.stoodInHeld p.1 = false ∧ Try.prog.eqGuardType Try.prog.depth p.1 = false ∧ (∃ fs, Try.prog.underlying p.1 = some (.struct fs) ∧ eqFits Try.prog fs.toList p.2 = true) := by
  intro p hp
  simp only [eqs, List.mem_cons, List.not_mem_nil, or_false] at hp
  rcases hp with rfl
  · exact ⟨by kernel_rfl, by kernel_rfl, _, Try.underlying30, by kernel_rfl⟩

noncomputable def E : Env := { tys := tys, fns := fns, own := [118], keep := [(160, [(2, [0, 3, 5])]), (80, [(4, [0, 5, 6, 7, 1005])]), (17, [(5, [0, 2, 7, 8])]), (30, [(4, [0, 1, 5])]), (205, [(3, [3, 6, 7, 8])]), (20, [(3, [0, 3, 7, 8, 9])]), (101, [(2, [0, 1, 7, 8])]), (193, [(3, [0, 2, 4, 8, 9, 10])]), (120, [(3, [1, 2, 6, 8, 11, 12, 13])]), (44, [(3, [0, 1, 2, 6, 8, 9])]), (7, [(6, [0, 3, 4, 5, 1004]), (16, [0, 3, 4, 8, 9])])], handN := [101, 107, 170, 193], scal := [7, 17, 20, 30, 31, 42, 43, 44, 51, 66, 88, 116, 117, 119, 120, 128, 133, 134, 147, 148, 162, 172, 173, 200, 205, 206, 234, 2000135, 2000155, 2000167, 3000023], pur := [14, 16, 41, 160], takeN := [118], ext := ext, eqs := eqs }

theorem ok : EnvOK E Try.prog := ⟨look_all tys_ok, look_all fns_ok, by kernel_rfl, look_all (l := tys) (Q := fun _ (i : TI) => i.zero.cells.size = i.size) (by
  intro p hp
  simp only [tys, List.mem_cons, List.not_mem_nil, or_false] at hp
  rcases hp with rfl | rfl | rfl | rfl | rfl | rfl | rfl | rfl | rfl | rfl | rfl | rfl | rfl | rfl | rfl | rfl | rfl | rfl | rfl | rfl | rfl | rfl <;> rfl), look_all ext_ok, look_all (l := eqs) (Q := fun t l => Try.prog.stoodInHeld t = false ∧ Try.prog.eqGuardType Try.prog.depth t = false ∧ (∃ fs, Try.prog.underlying t = some (.struct fs) ∧ eqFits Try.prog fs.toList l = true)) eqs_ok⟩

end Go.Proofs.Ytphcdalhdfbamaa.T05

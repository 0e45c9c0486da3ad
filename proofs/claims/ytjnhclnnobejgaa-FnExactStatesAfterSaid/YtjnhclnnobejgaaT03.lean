/- The engine's tables for laws.FnExactStatesAfter, and that they are the program's own; conditions: none. -/

import Derived.Test.YtjnhclnnobejgaaEsi
import Derived.Test.YtjnhclnnobejgaaChecked
import Derived.KernelRfl
import Derived.Lib.Strings
import Derived.Lib.Slices
import Derived.Lib.Walk
import Derived.Lib.Bytealg
namespace Go.Proofs.Ytjnhclnnobejgaa.T03
open Go.Proofs.YtjnhclnnobejgaaE

noncomputable def tys : List (Nat × TI) := [(0, ⟨(Go.TypeDesc.tuple #[]), 1, 0, (.tuple #[])⟩),
  (2, ⟨(Go.TypeDesc.int Go.IntKind.i64), 1, 8, (.int .i64 0)⟩),
  (3, ⟨(Go.TypeDesc.int Go.IntKind.i64), 1, 8, (.int .i64 0)⟩),
  (4, ⟨Go.TypeDesc.bool, 1, 1, (.bool false)⟩),
  (5, ⟨(Go.TypeDesc.int Go.IntKind.u8), 1, 1, (.int .u8 0)⟩),
  (9, ⟨Go.TypeDesc.string, 1, 16, (.string ⟨#[]⟩)⟩),
  (22, ⟨(Go.TypeDesc.slice 140), 1, 24, (.slice none 0 0)⟩),
  (23, ⟨(Go.TypeDesc.slice 142), 1, 24, (.slice none 0 0)⟩),
  (26, ⟨(Go.TypeDesc.slice 28), 1, 24, (.slice none 0 0)⟩),
  (28, ⟨(Go.TypeDesc.slice 148), 1, 24, (.slice none 0 0)⟩),
  (30, ⟨(Go.TypeDesc.slice 143), 1, 24, (.slice none 0 0)⟩),
  (78, ⟨(Go.TypeDesc.slice 5), 1, 24, (.slice none 0 0)⟩),
  (140, ⟨(Go.TypeDesc.struct #[{ name := "Key", type := 9, offset := 0, embedded := Bool.false, tag := "", pkgPath := "", byteOffset := 0 }, { name := "Value", type := 9, offset := 1, embedded := Bool.false, tag := "", pkgPath := "", byteOffset := 16 }]), 2, 32, (.agg #[(.string ⟨#[]⟩), (.string ⟨#[]⟩)])⟩),
  (142, ⟨(Go.TypeDesc.slice 218), 1, 24, (.slice none 0 0)⟩),
  (143, ⟨(Go.TypeDesc.slice 145), 1, 24, (.slice none 0 0)⟩),
  (145, ⟨(Go.TypeDesc.struct #[{ name := "Key", type := 9, offset := 0, embedded := Bool.false, tag := "", pkgPath := "", byteOffset := 0 }, { name := "Seq", type := 2, offset := 1, embedded := Bool.false, tag := "", pkgPath := "", byteOffset := 16 }, { name := "Kind", type := 2, offset := 2, embedded := Bool.false, tag := "", pkgPath := "", byteOffset := 24 }, { name := "Value", type := 9, offset := 3, embedded := Bool.false, tag := "", pkgPath := "", byteOffset := 32 }, { name := "End", type := 9, offset := 4, embedded := Bool.false, tag := "", pkgPath := "", byteOffset := 48 }]), 5, 64, (.agg #[(.string ⟨#[]⟩), (.int .i64 0), (.int .i64 0), (.string ⟨#[]⟩), (.string ⟨#[]⟩)])⟩),
  (146, ⟨(Go.TypeDesc.tuple #[28, 2]), 1, 0, (.tuple #[(.slice none 0 0), (.int .i64 0)])⟩),
  (148, ⟨(Go.TypeDesc.struct #[{ name := "Key", type := 9, offset := 0, embedded := Bool.false, tag := "", pkgPath := "", byteOffset := 0 }, { name := "Value", type := 9, offset := 1, embedded := Bool.false, tag := "", pkgPath := "", byteOffset := 16 }]), 2, 32, (.agg #[(.string ⟨#[]⟩), (.string ⟨#[]⟩)])⟩),
  (197, ⟨(Go.TypeDesc.int Go.IntKind.u64), 1, 8, (.int .u64 0)⟩),
  (218, ⟨(Go.TypeDesc.struct #[{ name := "Key", type := 9, offset := 0, embedded := Bool.false, tag := "", pkgPath := "", byteOffset := 0 }, { name := "Seq", type := 2, offset := 1, embedded := Bool.false, tag := "", pkgPath := "", byteOffset := 16 }, { name := "Kind", type := 2, offset := 2, embedded := Bool.false, tag := "", pkgPath := "", byteOffset := 24 }, { name := "Value", type := 9, offset := 3, embedded := Bool.false, tag := "", pkgPath := "", byteOffset := 32 }, { name := "End", type := 9, offset := 4, embedded := Bool.false, tag := "", pkgPath := "", byteOffset := 48 }]), 5, 64, (.agg #[(.string ⟨#[]⟩), (.int .i64 0), (.int .i64 0), (.string ⟨#[]⟩), (.string ⟨#[]⟩)])⟩),
  (286, ⟨(Go.TypeDesc.func #[148] #[4] Bool.false), 1, 8, .nilFunc⟩),
  (287, ⟨(Go.TypeDesc.tuple #[3, 4]), 1, 0, (.tuple #[(.int .i64 0), (.bool false)])⟩),
  (290, ⟨(Go.TypeDesc.func #[148, 9] #[3] Bool.false), 1, 8, .nilFunc⟩)]

theorem tys_ok : ∀ p ∈ tys, ∃ ti, Try.prog.info? p.1 = some ti ∧ Try.prog.underlying p.1 = some p.2.desc ∧ ti.size = p.2.size ∧ ti.bytes = p.2.bytes ∧ ti.zero = some p.2.zero := by
  intro p hp
  simp only [tys, List.mem_cons, List.not_mem_nil, or_false] at hp
  rcases hp with rfl | rfl | rfl | rfl | rfl | rfl | rfl | rfl | rfl | rfl | rfl | rfl | rfl | rfl | rfl | rfl | rfl | rfl | rfl | rfl | rfl | rfl | rfl
  · exact info_of (by kernel_rfl) Try.underlying0
  · exact info_of (by kernel_rfl) Try.underlying2
  · exact info_of (by kernel_rfl) Try.underlying3
  · exact info_of (by kernel_rfl) Try.underlying4
  · exact info_of (by kernel_rfl) Try.underlying5
  · exact info_of (by kernel_rfl) Try.underlying9
  · exact info_of (by kernel_rfl) Try.underlying22
  · exact info_of (by kernel_rfl) Try.underlying23
  · exact info_of (by kernel_rfl) Try.underlying26
  · exact info_of (by kernel_rfl) Try.underlying28
  · exact info_of (by kernel_rfl) Try.underlying30
  · exact info_of (by kernel_rfl) Try.underlying78
  · exact info_of (by kernel_rfl) Try.underlying140
  · exact info_of (by kernel_rfl) Try.underlying142
  · exact info_of (by kernel_rfl) Try.underlying143
  · exact info_of (by kernel_rfl) Try.underlying145
  · exact info_of (by kernel_rfl) Try.underlying146
  · exact info_of (by kernel_rfl) Try.underlying148
  · exact info_of (by kernel_rfl) Try.underlying197
  · exact info_of (by kernel_rfl) Try.underlying218
  · exact info_of (by kernel_rfl) Try.underlying286
  · exact info_of (by kernel_rfl) Try.underlying287
  · exact info_of (by kernel_rfl) Try.underlying290

noncomputable def fns : List (Nat × Func) := [(92, Try.f92), (14, Try.f14), (181, Try.f181), (93, Try.f93), (15, Try.f15), (264, Try.f264), (182, Try.f182), (142, Try.f142), (183, Try.f183), (184, Try.f184), (94, Try.f94), (16, Try.f16), (95, Try.f95), (17, Try.f17), (185, Try.f185), (96, Try.f96), (18, Try.f18), (157, Try.f157), (265, Try.f265), (186, Try.f186), (187, Try.f187), (308, Try.f308), (266, Try.f266), (268, Try.f268), (267, Try.f267), (269, Try.f269), (270, Try.f270), (188, Try.f188), (98, Try.f98), (19, Try.f19), (99, Try.f99), (21, Try.f21), (20, Try.f20), (189, Try.f189), (100, Try.f100), (22, Try.f22), (101, Try.f101), (23, Try.f23), (102, Try.f102), (24, Try.f24), (25, Try.f25), (103, Try.f103), (26, Try.f26), (3, Try.f3)]

theorem fns_ok : ∀ p ∈ fns, Try.prog.funcs[p.1]? = some p.2 ∧ (p.2.name == "runtime.NumGoroutine") = false ∧ drawsF [3, 14, 15, 19, 20, 21, 22, 26, 92, 93, 99, 100, 103, 142, 157, 181, 182, 183, 184, 186, 187, 189, 264, 265, 268, 270, 271, 1000078, 4000028, 4000143, 2000043, 2000050, 2000069, 2000071, 2000083, 2000091, 2000117, 2000121, 2000203, 2000226, 2000240, 2000267, 2000278] [94, 98, 188] p.2 = true := by
  intro p hp
  simp only [fns, List.mem_cons, List.not_mem_nil, or_false] at hp
  rcases hp with rfl | rfl | rfl | rfl | rfl | rfl | rfl | rfl | rfl | rfl | rfl | rfl | rfl | rfl | rfl | rfl | rfl | rfl | rfl | rfl | rfl | rfl | rfl | rfl | rfl | rfl | rfl | rfl | rfl | rfl | rfl | rfl | rfl | rfl | rfl | rfl | rfl | rfl | rfl | rfl | rfl | rfl | rfl | rfl
  · exact ⟨Try.func92, by kernel_rfl, by kernel_rfl⟩
  · exact ⟨Try.func14, by kernel_rfl, by kernel_rfl⟩
  · exact ⟨Try.func181, by kernel_rfl, by kernel_rfl⟩
  · exact ⟨Try.func93, by kernel_rfl, by kernel_rfl⟩
  · exact ⟨Try.func15, by kernel_rfl, by kernel_rfl⟩
  · exact ⟨Try.func264, by kernel_rfl, by kernel_rfl⟩
  · exact ⟨Try.func182, by kernel_rfl, by kernel_rfl⟩
  · exact ⟨Try.func142, by kernel_rfl, by kernel_rfl⟩
  · exact ⟨Try.func183, by kernel_rfl, by kernel_rfl⟩
  · exact ⟨Try.func184, by kernel_rfl, by kernel_rfl⟩
  · exact ⟨Try.func94, by kernel_rfl, by kernel_rfl⟩
  · exact ⟨Try.func16, by kernel_rfl, by kernel_rfl⟩
  · exact ⟨Try.func95, by kernel_rfl, by kernel_rfl⟩
  · exact ⟨Try.func17, by kernel_rfl, by kernel_rfl⟩
  · exact ⟨Try.func185, by kernel_rfl, by kernel_rfl⟩
  · exact ⟨Try.func96, by kernel_rfl, by kernel_rfl⟩
  · exact ⟨Try.func18, by kernel_rfl, by kernel_rfl⟩
  · exact ⟨Try.func157, by kernel_rfl, by kernel_rfl⟩
  · exact ⟨Try.func265, by kernel_rfl, by kernel_rfl⟩
  · exact ⟨Try.func186, by kernel_rfl, by kernel_rfl⟩
  · exact ⟨Try.func187, by kernel_rfl, by kernel_rfl⟩
  · exact ⟨Try.func308, by kernel_rfl, by kernel_rfl⟩
  · exact ⟨Try.func266, by kernel_rfl, by kernel_rfl⟩
  · exact ⟨Try.func268, by kernel_rfl, by kernel_rfl⟩
  · exact ⟨Try.func267, by kernel_rfl, by kernel_rfl⟩
  · exact ⟨Try.func269, by kernel_rfl, by kernel_rfl⟩
  · exact ⟨Try.func270, by kernel_rfl, by kernel_rfl⟩
  · exact ⟨Try.func188, by kernel_rfl, by kernel_rfl⟩
  · exact ⟨Try.func98, by kernel_rfl, by kernel_rfl⟩
  · exact ⟨Try.func19, by kernel_rfl, by kernel_rfl⟩
  · exact ⟨Try.func99, by kernel_rfl, by kernel_rfl⟩
  · exact ⟨Try.func21, by kernel_rfl, by kernel_rfl⟩
  · exact ⟨Try.func20, by kernel_rfl, by kernel_rfl⟩
  · exact ⟨Try.func189, by kernel_rfl, by kernel_rfl⟩
  · exact ⟨Try.func100, by kernel_rfl, by kernel_rfl⟩
  · exact ⟨Try.func22, by kernel_rfl, by kernel_rfl⟩
  · exact ⟨Try.func101, by kernel_rfl, by kernel_rfl⟩
  · exact ⟨Try.func23, by kernel_rfl, by kernel_rfl⟩
  · exact ⟨Try.func102, by kernel_rfl, by kernel_rfl⟩
  · exact ⟨Try.func24, by kernel_rfl, by kernel_rfl⟩
  · exact ⟨Try.func25, by kernel_rfl, by kernel_rfl⟩
  · exact ⟨Try.func103, by kernel_rfl, by kernel_rfl⟩
  · exact ⟨Try.func26, by kernel_rfl, by kernel_rfl⟩
  · exact ⟨Try.func3, by kernel_rfl, by kernel_rfl⟩

set_option maxHeartbeats 1000000 in
set_option maxRecDepth 100000 in
theorem bytealg_CompareString (a b : ByteArray) (w : World) :
    Calls Try.prog 309 #[.string a, .string b] w fun e w' => e = .returned (.int .i64 (Lib.compareBytes a.data.toList b.data.toList)) ∧ w' = w := by
  go_enter Try.func309, Try.ntmps309
  go_wp2
  rw [run_callFunc_extern Try.func324 (by kernel_rfl) (by kernel_rfl) (by kernel_rfl) (e := Extern.BytealgCompare.compare) (by kernel_rfl), Lib.run_compareString]
  simp only [Result.andThen]
  rw [Oper.upon_value]
  go_wp2
  go_ret
  exact ⟨rfl, rfl⟩

#print axioms bytealg_CompareString

set_option maxHeartbeats 1000000 in
theorem strings_Compare (a b : ByteArray) (w : World) :
    Calls Try.prog 271 #[.string a, .string b] w fun e w' => e = .returned (.int .i64 (Lib.compareBytes a.data.toList b.data.toList)) ∧ w' = w := by
  go_enter Try.func271, Try.ntmps271
  go_wp2_with (go_at_call 309; refine (bytealg_CompareString _ _ _).mono ?_; rintro e w' ⟨rfl, rfl⟩)
  go_ret
  exact ⟨rfl, rfl⟩

noncomputable def g271 : List V → Option V := fun args => match args with
  | [.d (.lit (.string a)), .d (.lit (.string b))] => some (.d (.lit (.int .i64 (Lib.compareBytes a.data.toList b.data.toList))))
  | _ => none

noncomputable def ext : List (Nat × (List V → Fo → Option (V × Fo))) := [(271, fun args F => match g271 args with | some v => some (v, F) | none => none),
  (97, extClone 148 ⟨(Go.TypeDesc.struct #[{ name := "Key", type := 9, offset := 0, embedded := Bool.false, tag := "", pkgPath := "", byteOffset := 0 }, { name := "Value", type := 9, offset := 1, embedded := Bool.false, tag := "", pkgPath := "", byteOffset := 16 }]), 2, 32, (.agg #[(.string ⟨#[]⟩), (.string ⟨#[]⟩)])⟩),
  (272, extInsert 148 ⟨(Go.TypeDesc.struct #[{ name := "Key", type := 9, offset := 0, embedded := Bool.false, tag := "", pkgPath := "", byteOffset := 0 }, { name := "Value", type := 9, offset := 1, embedded := Bool.false, tag := "", pkgPath := "", byteOffset := 16 }]), 2, 32, (.agg #[(.string ⟨#[]⟩), (.string ⟨#[]⟩)])⟩)]

theorem ext_ok : ∀ p ∈ ext, ExtOK Try.prog p.1 p.2 := by
  intro p hp
  simp only [ext, List.mem_cons, List.not_mem_nil, or_false] at hp
  rcases hp with rfl | rfl | rfl
  · exact ext_scal ⟨Try.f271, Try.func271, by kernel_rfl, by kernel_rfl⟩ (fun args v h => by
      unfold g271 at h
      split at h
      · injection h with h
        subst h
        exact ⟨rfl, _, rfl, rfl, fun w => strings_Compare _ _ w⟩
      · simp at h)
  · exact ext_clone (s := 28) (b := 4) (clone_lays (is := ⟨(Go.TypeDesc.slice 148), 1, 24, (.slice none 0 0)⟩) (ib := ⟨Go.TypeDesc.bool, 1, 1, (.bool false)⟩) (by kernel_rfl) ⟨_, by kernel_rfl, Try.func97⟩ (look_all tys_ok 28 _ rfl) (look_all tys_ok 4 _ rfl) rfl rfl rfl rfl rfl rfl) ⟨Try.f97, Try.func97, by kernel_rfl, by kernel_rfl⟩ (look_all tys_ok 148 _ rfl) rfl
  · exact ext_insert (ρ := renI 272 28 148 0 3 4 310 311) rfl (insert_lays (is := ⟨(Go.TypeDesc.slice 148), 1, 24, (.slice none 0 0)⟩) (ii := ⟨(Go.TypeDesc.int Go.IntKind.i64), 1, 8, (.int .i64 0)⟩) (ib := ⟨Go.TypeDesc.bool, 1, 1, (.bool false)⟩) (ie := ⟨(Go.TypeDesc.struct #[{ name := "Key", type := 9, offset := 0, embedded := Bool.false, tag := "", pkgPath := "", byteOffset := 0 }, { name := "Value", type := 9, offset := 1, embedded := Bool.false, tag := "", pkgPath := "", byteOffset := 16 }]), 2, 32, (.agg #[(.string ⟨#[]⟩), (.string ⟨#[]⟩)])⟩) (by kernel_rfl) ⟨_, by kernel_rfl, Try.func272⟩ Try.func310 (by kernel_rfl) (by kernel_rfl) (by kernel_rfl) (by kernel_rfl) (look_all tys_ok 28 _ rfl) (look_all tys_ok 3 _ rfl) (look_all tys_ok 4 _ rfl) (look_all tys_ok 148 _ rfl) rfl rfl rfl rfl rfl rfl rfl rfl rfl) ⟨Try.f272, Try.func272, by kernel_rfl, by kernel_rfl⟩ (look_all tys_ok 148 _ rfl) rfl (by decide)

noncomputable def eqs : List (Nat × List (Nat × Nat)) := []

theorem eqs_ok : ∀ p ∈ eqs, Try.prog.stoodInHeld p.1 = false ∧ Try.prog.eqGuardType Try.prog.depth p.1 = false ∧ (∃ fs, Try.prog.underlying p.1 = some (.struct fs) ∧ eqFits Try.prog fs.toList p.2 = true) := by
  intro p hp
  exact absurd hp List.not_mem_nil

noncomputable def E : Env := { tys := tys, fns := fns, own := [17, 18, 19, 95, 96, 101, 185, 266, 272], keep := [(14, [(5, [0, 1, 5])]), (93, [(5, [0, 1, 5])]), (15, [(5, [0, 1, 5])]), (182, [(2, [0, 3])]), (94, [(6, [0, 3, 6, 7, 8])]), (16, [(4, [1, 5, 6, 7, 1006]), (7, [1, 5, 6, 7, 8, 1006])]), (17, [(3, [0, 3, 4])]), (96, [(3, [0, 3, 4])]), (18, [(3, [0, 3, 4])]), (186, [(2, [0, 5, 6, 7])]), (308, [(2, [0, 1, 7, 8])]), (266, [(5, [0, 1, 5, 6])]), (269, [(3, [0, 1, 2, 8, 9, 10])]), (19, [(3, [0, 5, 15, 16, 17]), (6, [0, 5, 15, 16, 17, 21, 22, 23])]), (21, [(4, [0, 1, 5])]), (20, [(4, [0, 1, 5])]), (100, [(4, [0, 1, 5])]), (22, [(4, [0, 1, 5])]), (101, [(4, [0, 3])]), (23, [(2, [0, 1, 5])]), (102, [(2, [0, 1, 5])]), (24, [(2, [0, 1, 5])]), (25, [(2, [0, 1, 5])]), (103, [(2, [0, 1, 5])]), (26, [(2, [0, 1, 5])])], handN := [23, 24, 25, 97, 102, 269, 308], scal := [3, 14, 15, 19, 20, 21, 22, 26, 92, 93, 99, 100, 103, 142, 157, 181, 182, 183, 184, 186, 187, 189, 264, 265, 268, 270, 271, 1000078, 4000028, 4000143, 2000043, 2000050, 2000069, 2000071, 2000083, 2000091, 2000117, 2000121, 2000203, 2000226, 2000240, 2000267, 2000278], pur := [94, 98, 188], takeN := [266, 272], ext := ext, eqs := eqs }

theorem ok : EnvOK E Try.prog := ⟨look_all tys_ok, look_all fns_ok, by kernel_rfl, look_all (l := tys) (Q := fun _ (i : TI) => i.zero.cells.size = i.size) (by
  intro p hp
  simp only [tys, List.mem_cons, List.not_mem_nil, or_false] at hp
  rcases hp with rfl | rfl | rfl | rfl | rfl | rfl | rfl | rfl | rfl | rfl | rfl | rfl | rfl | rfl | rfl | rfl | rfl | rfl | rfl | rfl | rfl | rfl | rfl <;> rfl), look_all ext_ok, look_all (l := eqs) (Q := fun t l => Try.prog.stoodInHeld t = false ∧ Try.prog.eqGuardType Try.prog.depth t = false ∧ (∃ fs, Try.prog.underlying t = some (.struct fs) ∧ eqFits Try.prog fs.toList l = true)) eqs_ok⟩

end Go.Proofs.Ytjnhclnnobejgaa.T03

/- The engine's tables for laws.FnSplit, and that they are the program's own; conditions: none. -/

import Derived.Test.YtphcdalhdfbamaaEs
import Derived.Test.YtphcdalhdfbamaaChecked
import Derived.KernelRfl
import Derived.Lib.Strings
import Derived.Lib.Slices
import Derived.Lib.Walk
import Derived.Lib.Bytealg
namespace Go.Proofs.Ytphcdalhdfbamaa.T02
open Go.Proofs.YtphcdalhdfbamaaE

noncomputable def tys : List (Nat × TI) := [(2, ⟨(Go.TypeDesc.int Go.IntKind.i64), 1, 8, (.int .i64 0)⟩),
  (3, ⟨(Go.TypeDesc.int Go.IntKind.i64), 1, 8, (.int .i64 0)⟩),
  (4, ⟨Go.TypeDesc.bool, 1, 1, (.bool false)⟩),
  (5, ⟨(Go.TypeDesc.int Go.IntKind.u8), 1, 1, (.int .u8 0)⟩),
  (9, ⟨Go.TypeDesc.string, 1, 16, (.string ⟨#[]⟩)⟩),
  (22, ⟨(Go.TypeDesc.slice 5), 1, 24, (.slice none 0 0)⟩),
  (23, ⟨(Go.TypeDesc.slice 30), 1, 24, (.slice none 0 0)⟩),
  (25, ⟨(Go.TypeDesc.slice 2), 1, 24, (.slice none 0 0)⟩),
  (30, ⟨(Go.TypeDesc.struct #[{ name := "Key", type := 9, offset := 0, embedded := Bool.false, tag := "", pkgPath := "", byteOffset := 0 }, { name := "Seq", type := 2, offset := 1, embedded := Bool.false, tag := "", pkgPath := "", byteOffset := 16 }, { name := "Kind", type := 2, offset := 2, embedded := Bool.false, tag := "", pkgPath := "", byteOffset := 24 }, { name := "Value", type := 9, offset := 3, embedded := Bool.false, tag := "", pkgPath := "", byteOffset := 32 }, { name := "End", type := 9, offset := 4, embedded := Bool.false, tag := "", pkgPath := "", byteOffset := 48 }]), 5, 64, (.agg #[(.string ⟨#[]⟩), (.int .i64 0), (.int .i64 0), (.string ⟨#[]⟩), (.string ⟨#[]⟩)])⟩),
  (33, ⟨(Go.TypeDesc.slice 23), 1, 24, (.slice none 0 0)⟩),
  (34, ⟨(Go.TypeDesc.func #[23] #[4] Bool.false), 1, 8, .nilFunc⟩),
  (41, ⟨(Go.TypeDesc.tuple #[33, 2]), 1, 0, (.tuple #[(.slice none 0 0), (.int .i64 0)])⟩),
  (43, ⟨(Go.TypeDesc.tuple #[9, 9]), 1, 0, (.tuple #[(.string ⟨#[]⟩), (.string ⟨#[]⟩)])⟩),
  (57, ⟨(Go.TypeDesc.slice 9), 1, 24, (.slice none 0 0)⟩),
  (101, ⟨(Go.TypeDesc.pointer 155), 1, 8, (.pointer none)⟩),
  (105, ⟨(Go.TypeDesc.map 2 4), 1, 8, (.map none)⟩),
  (153, ⟨(Go.TypeDesc.int Go.IntKind.u64), 1, 8, (.int .u64 0)⟩),
  (155, ⟨(Go.TypeDesc.struct #[{ name := "code", type := 22, offset := 0, embedded := Bool.false, tag := "", pkgPath := "loop.example/g00905/spec", byteOffset := 0 }, { name := "at", type := 3, offset := 1, embedded := Bool.false, tag := "", pkgPath := "loop.example/g00905/spec", byteOffset := 24 }, { name := "seed", type := 153, offset := 2, embedded := Bool.false, tag := "", pkgPath := "loop.example/g00905/spec", byteOffset := 32 }]), 3, 40, (.agg #[(.slice none 0 0), (.int .i64 0), (.int .u64 0)])⟩),
  (207, ⟨(Go.TypeDesc.slice 3), 1, 24, (.slice none 0 0)⟩)]

theorem tys_ok : ∀ p ∈ tys, ∃ ti, Try.prog.info? p.1 = some ti ∧ Try.prog.underlying p.1 = some p.2.desc ∧ ti.size = p.2.size ∧ ti.bytes = p.2.bytes ∧ ti.zero = some p.2.zero := by
  intro p hp
  simp only [tys, List.mem_cons, List.not_mem_nil, or_false] at hp
  rcases hp with rfl | rfl | rfl | rfl | rfl | rfl | rfl | rfl | rfl | rfl | rfl | rfl | rfl | rfl | rfl | rfl | rfl | rfl | rfl
  · exact info_of (by kernel_rfl) Try.underlying2
  · exact info_of (by kernel_rfl) Try.underlying3
  · exact info_of (by kernel_rfl) Try.underlying4
  · exact info_of (by kernel_rfl) Try.underlying5
  · exact info_of (by kernel_rfl) Try.underlying9
  · exact info_of (by kernel_rfl) Try.underlying22
  · exact info_of (by kernel_rfl) Try.underlying23
  · exact info_of (by kernel_rfl) Try.underlying25
  · exact info_of (by kernel_rfl) Try.underlying30
  · exact info_of (by kernel_rfl) Try.underlying33
  · exact info_of (by kernel_rfl) Try.underlying34
  · exact info_of (by kernel_rfl) Try.underlying41
  · exact info_of (by kernel_rfl) Try.underlying43
  · exact info_of (by kernel_rfl) Try.underlying57
  · exact info_of (by kernel_rfl) Try.underlying101
  · exact info_of (by kernel_rfl) Try.underlying105
  · exact info_of (by kernel_rfl) Try.underlying153
  · exact info_of (by kernel_rfl) Try.underlying155
  · exact info_of (by kernel_rfl) Try.underlying207

noncomputable def fns : List (Nat × Func) := [(23, Try.f23), (81, Try.f81), (204, Try.f204), (126, Try.f126), (90, Try.f90), (176, Try.f176), (147, Try.f147), (162, Try.f162), (133, Try.f133), (134, Try.f134), (160, Try.f160), (225, Try.f225), (177, Try.f177), (175, Try.f175), (91, Try.f91), (161, Try.f161), (92, Try.f92), (24, Try.f24), (205, Try.f205), (234, Try.f234), (206, Try.f206), (128, Try.f128), (51, Try.f51), (173, Try.f173), (119, Try.f119), (88, Try.f88), (20, Try.f20), (166, Try.f166), (178, Try.f178), (226, Try.f226), (179, Try.f179), (180, Try.f180), (93, Try.f93), (25, Try.f25), (86, Try.f86), (94, Try.f94), (181, Try.f181), (95, Try.f95), (26, Try.f26), (96, Try.f96), (27, Try.f27), (4, Try.f4)]

theorem fns_ok : ∀ p ∈ fns, Try.prog.funcs[p.1]? = some p.2 ∧ (p.2.name == "runtime.NumGoroutine") = false ∧ drawsF [4, 20, 23, 27, 51, 86, 88, 94, 96, 119, 128, 133, 134, 147, 162, 166, 173, 178, 180, 181, 200, 205, 206, 234, 1000022, 2000135, 2000155, 2000167, 3000023] [24, 25, 26, 93, 95] p.2 = true := by
  intro p hp
  simp only [fns, List.mem_cons, List.not_mem_nil, or_false] at hp
  rcases hp with rfl | rfl | rfl | rfl | rfl | rfl | rfl | rfl | rfl | rfl | rfl | rfl | rfl | rfl | rfl | rfl | rfl | rfl | rfl | rfl | rfl | rfl | rfl | rfl | rfl | rfl | rfl | rfl | rfl | rfl | rfl | rfl | rfl | rfl | rfl | rfl | rfl | rfl | rfl | rfl | rfl | rfl
  · exact ⟨Try.func23, by kernel_rfl, by kernel_rfl⟩
  · exact ⟨Try.func81, by kernel_rfl, by kernel_rfl⟩
  · exact ⟨Try.func204, by kernel_rfl, by kernel_rfl⟩
  · exact ⟨Try.func126, by kernel_rfl, by kernel_rfl⟩
  · exact ⟨Try.func90, by kernel_rfl, by kernel_rfl⟩
  · exact ⟨Try.func176, by kernel_rfl, by kernel_rfl⟩
  · exact ⟨Try.func147, by kernel_rfl, by kernel_rfl⟩
  · exact ⟨Try.func162, by kernel_rfl, by kernel_rfl⟩
  · exact ⟨Try.func133, by kernel_rfl, by kernel_rfl⟩
  · exact ⟨Try.func134, by kernel_rfl, by kernel_rfl⟩
  · exact ⟨Try.func160, by kernel_rfl, by kernel_rfl⟩
  · exact ⟨Try.func225, by kernel_rfl, by kernel_rfl⟩
  · exact ⟨Try.func177, by kernel_rfl, by kernel_rfl⟩
  · exact ⟨Try.func175, by kernel_rfl, by kernel_rfl⟩
  · exact ⟨Try.func91, by kernel_rfl, by kernel_rfl⟩
  · exact ⟨Try.func161, by kernel_rfl, by kernel_rfl⟩
  · exact ⟨Try.func92, by kernel_rfl, by kernel_rfl⟩
  · exact ⟨Try.func24, by kernel_rfl, by kernel_rfl⟩
  · exact ⟨Try.func205, by kernel_rfl, by kernel_rfl⟩
  · exact ⟨Try.func234, by kernel_rfl, by kernel_rfl⟩
  · exact ⟨Try.func206, by kernel_rfl, by kernel_rfl⟩
  · exact ⟨Try.func128, by kernel_rfl, by kernel_rfl⟩
  · exact ⟨Try.func51, by kernel_rfl, by kernel_rfl⟩
  · exact ⟨Try.func173, by kernel_rfl, by kernel_rfl⟩
  · exact ⟨Try.func119, by kernel_rfl, by kernel_rfl⟩
  · exact ⟨Try.func88, by kernel_rfl, by kernel_rfl⟩
  · exact ⟨Try.func20, by kernel_rfl, by kernel_rfl⟩
  · exact ⟨Try.func166, by kernel_rfl, by kernel_rfl⟩
  · exact ⟨Try.func178, by kernel_rfl, by kernel_rfl⟩
  · exact ⟨Try.func226, by kernel_rfl, by kernel_rfl⟩
  · exact ⟨Try.func179, by kernel_rfl, by kernel_rfl⟩
  · exact ⟨Try.func180, by kernel_rfl, by kernel_rfl⟩
  · exact ⟨Try.func93, by kernel_rfl, by kernel_rfl⟩
  · exact ⟨Try.func25, by kernel_rfl, by kernel_rfl⟩
  · exact ⟨Try.func86, by kernel_rfl, by kernel_rfl⟩
  · exact ⟨Try.func94, by kernel_rfl, by kernel_rfl⟩
  · exact ⟨Try.func181, by kernel_rfl, by kernel_rfl⟩
  · exact ⟨Try.func95, by kernel_rfl, by kernel_rfl⟩
  · exact ⟨Try.func26, by kernel_rfl, by kernel_rfl⟩
  · exact ⟨Try.func96, by kernel_rfl, by kernel_rfl⟩
  · exact ⟨Try.func27, by kernel_rfl, by kernel_rfl⟩
  · exact ⟨Try.func4, by kernel_rfl, by kernel_rfl⟩

set_option maxHeartbeats 1000000 in
set_option maxRecDepth 100000 in
theorem bytealg_CompareString (a b : ByteArray) (w : World) :
    Calls Try.prog 230 #[.string a, .string b] w fun e w' => e = .returned (.int .i64 (Lib.compareBytes a.data.toList b.data.toList)) ∧ w' = w := by
  go_enter Try.func230, Try.ntmps230
  go_wp2
  rw [run_callFunc_extern Try.func249 (by kernel_rfl) (by kernel_rfl) (by kernel_rfl) (e := Extern.BytealgCompare.compare) (by kernel_rfl), Lib.run_compareString]
  simp only [Result.andThen]
  rw [Oper.upon_value]
  go_wp2
  go_ret
  exact ⟨rfl, rfl⟩

#print axioms bytealg_CompareString

set_option maxHeartbeats 1000000 in
theorem strings_Compare (a b : ByteArray) (w : World) :
    Calls Try.prog 200 #[.string a, .string b] w fun e w' => e = .returned (.int .i64 (Lib.compareBytes a.data.toList b.data.toList)) ∧ w' = w := by
  go_enter Try.func200, Try.ntmps200
  go_wp2_with (go_at_call 230; refine (bytealg_CompareString _ _ _).mono ?_; rintro e w' ⟨rfl, rfl⟩)
  go_ret
  exact ⟨rfl, rfl⟩

noncomputable def g200 : List V → Option V := fun args => match args with
  | [.d (.lit (.string a)), .d (.lit (.string b))] => some (.d (.lit (.int .i64 (Lib.compareBytes a.data.toList b.data.toList))))
  | _ => none

noncomputable def ext : List (Nat × (List V → Fo → Option (V × Fo))) := [(200, fun args F => match g200 args with | some v => some (v, F) | none => none)]

theorem ext_ok : ∀ p ∈ ext, ExtOK Try.prog p.1 p.2 := by
  intro p hp
  simp only [ext, List.mem_cons, List.not_mem_nil, or_false] at hp
  rcases hp with rfl
  · exact ext_scal ⟨Try.f200, Try.func200, by kernel_rfl, by kernel_rfl⟩ (fun args v h => by
      unfold g200 at h
      split at h
      · injection h with h
        subst h
        exact ⟨rfl, _, rfl, rfl, fun w => strings_Compare _ _ w⟩
      · simp at h)

noncomputable def eqs : List (Nat × List (Nat × Nat)) := [(30, [(0, 2), (1, 0), (2, 0), (3, 2), (4, 2)])]

theorem eqs_ok : ∀ p ∈ eqs, Try.prog.stoodInHeld p.1 = false ∧ Try.prog.eqGuardType Try.prog.depth p.1 = false ∧ (∃ fs, Try.prog.underlying p.1 = some (.struct fs) ∧ eqFits Try.prog fs.toList p.2 = true) := by
  intro p hp
  simp only [eqs, List.mem_cons, List.not_mem_nil, or_false] at hp
  rcases hp with rfl
  · exact ⟨by kernel_rfl, by kernel_rfl, _, Try.underlying30, by kernel_rfl⟩

noncomputable def E : Env := { tys := tys, fns := fns, own := [160, 175, 177, 225], keep := [(160, [(2, [0, 3, 5])]), (225, [(3, [0, 3, 4])]), (175, [(3, [0, 1, 2, 7, 8])]), (92, [(4, [0, 3, 4, 5])]), (205, [(3, [3, 6, 7, 8])]), (20, [(3, [0, 3, 7, 8, 9])]), (226, [(2, [0, 1, 7, 8])]), (93, [(5, [4, 5, 6, 9, 10, 11])]), (86, [(2, [0, 3]), (7, [0, 3, 4])]), (95, [(5, [0, 4, 5, 6, 7])]), (96, [(3, [0, 4, 5])]), (4, [(13, [3, 4, 8, 9, 10]), (20, [3, 4, 8, 9, 10, 13])])], handN := [176, 179, 226], scal := [4, 20, 23, 27, 51, 86, 88, 94, 96, 119, 128, 133, 134, 147, 162, 166, 173, 178, 180, 181, 200, 205, 206, 234, 1000022, 2000135, 2000155, 2000167, 3000023], pur := [24, 25, 26, 93, 95], takeN := [160], ext := ext, eqs := eqs }

theorem ok : EnvOK E Try.prog := ⟨look_all tys_ok, look_all fns_ok, by kernel_rfl, look_all (l := tys) (Q := fun _ (i : TI) => i.zero.cells.size = i.size) (by
  intro p hp
  simp only [tys, List.mem_cons, List.not_mem_nil, or_false] at hp
  rcases hp with rfl | rfl | rfl | rfl | rfl | rfl | rfl | rfl | rfl | rfl | rfl | rfl | rfl | rfl | rfl | rfl | rfl | rfl | rfl <;> rfl), look_all ext_ok, look_all (l := eqs) (Q := fun t l => Try.prog.stoodInHeld t = false ∧ Try.prog.eqGuardType Try.prog.depth t = false ∧ (∃ fs, Try.prog.underlying t = some (.struct fs) ∧ eqFits Try.prog fs.toList l = true)) eqs_ok⟩

end Go.Proofs.Ytphcdalhdfbamaa.T02

/- The engine's tables for laws.FnExactDecodeVersion, and that they are the program's own; conditions: none. -/

import Derived.Test.YtjphojijobhdiaaEsi
import Derived.Test.YtjphojijobhdiaaChecked
import Derived.KernelRfl
import Derived.Lib.Strings
import Derived.Lib.Slices
import Derived.Lib.Walk
import Derived.Lib.Bytealg
namespace Go.Proofs.Ytjphojijobhdiaa.T05
open Go.Proofs.YtjphojijobhdiaaE

noncomputable def tys : List (Nat × TI) := [(2, ⟨(Go.TypeDesc.int Go.IntKind.i64), 1, 8, (.int .i64 0)⟩),
  (3, ⟨(Go.TypeDesc.int Go.IntKind.i64), 1, 8, (.int .i64 0)⟩),
  (4, ⟨Go.TypeDesc.bool, 1, 1, (.bool false)⟩),
  (5, ⟨(Go.TypeDesc.int Go.IntKind.u8), 1, 1, (.int .u8 0)⟩),
  (9, ⟨Go.TypeDesc.string, 1, 16, (.string ⟨#[]⟩)⟩),
  (22, ⟨(Go.TypeDesc.slice 5), 1, 24, (.slice none 0 0)⟩),
  (34, ⟨(Go.TypeDesc.tuple #[9, 4]), 1, 0, (.tuple #[(.string ⟨#[]⟩), (.bool false)])⟩),
  (56, ⟨(Go.TypeDesc.slice 231), 1, 24, (.slice none 0 0)⟩),
  (65, ⟨(Go.TypeDesc.struct #[{ name := "NextId", type := 2, offset := 0, embedded := Bool.false, tag := "", pkgPath := "", byteOffset := 0 }, { name := "LogZone", type := 2, offset := 1, embedded := Bool.false, tag := "", pkgPath := "", byteOffset := 8 }, { name := "LogSeq", type := 2, offset := 2, embedded := Bool.false, tag := "", pkgPath := "", byteOffset := 16 }, { name := "Tables", type := 56, offset := 3, embedded := Bool.false, tag := "", pkgPath := "", byteOffset := 24 }]), 4, 48, (.agg #[(.int .i64 0), (.int .i64 0), (.int .i64 0), (.slice none 0 0)])⟩),
  (66, ⟨(Go.TypeDesc.tuple #[65, 4]), 1, 0, (.tuple #[(.agg #[(.int .i64 0), (.int .i64 0), (.int .i64 0), (.slice none 0 0)]), (.bool false)])⟩),
  (111, ⟨(Go.TypeDesc.tuple #[2, 2, 4]), 1, 0, (.tuple #[(.int .i64 0), (.int .i64 0), (.bool false)])⟩),
  (115, ⟨(Go.TypeDesc.tuple #[9, 2, 4]), 1, 0, (.tuple #[(.string ⟨#[]⟩), (.int .i64 0), (.bool false)])⟩),
  (143, ⟨(Go.TypeDesc.pointer 145), 1, 8, (.pointer none)⟩),
  (145, ⟨(Go.TypeDesc.struct #[{ name := "s", type := 9, offset := 0, embedded := Bool.false, tag := "", pkgPath := "loop.example/g00905/spec", byteOffset := 0 }, { name := "bad", type := 4, offset := 1, embedded := Bool.false, tag := "", pkgPath := "loop.example/g00905/spec", byteOffset := 16 }]), 2, 24, (.agg #[(.string ⟨#[]⟩), (.bool false)])⟩),
  (152, ⟨(Go.TypeDesc.pointer 154), 1, 8, (.pointer none)⟩),
  (154, ⟨(Go.TypeDesc.struct #[{ name := "rest", type := 9, offset := 0, embedded := Bool.false, tag := "", pkgPath := "loop.example/g00905/impl", byteOffset := 0 }, { name := "bad", type := 4, offset := 1, embedded := Bool.false, tag := "", pkgPath := "loop.example/g00905/impl", byteOffset := 16 }]), 2, 24, (.agg #[(.string ⟨#[]⟩), (.bool false)])⟩),
  (163, ⟨(Go.TypeDesc.pointer 65), 1, 8, (.pointer none)⟩),
  (203, ⟨(Go.TypeDesc.int Go.IntKind.u64), 1, 8, (.int .u64 0)⟩),
  (231, ⟨(Go.TypeDesc.struct #[{ name := "Id", type := 2, offset := 0, embedded := Bool.false, tag := "", pkgPath := "", byteOffset := 0 }, { name := "Level", type := 2, offset := 1, embedded := Bool.false, tag := "", pkgPath := "", byteOffset := 8 }, { name := "Zone", type := 2, offset := 2, embedded := Bool.false, tag := "", pkgPath := "", byteOffset := 16 }, { name := "Page", type := 2, offset := 3, embedded := Bool.false, tag := "", pkgPath := "", byteOffset := 24 }, { name := "Pages", type := 2, offset := 4, embedded := Bool.false, tag := "", pkgPath := "", byteOffset := 32 }, { name := "Low", type := 9, offset := 5, embedded := Bool.false, tag := "", pkgPath := "", byteOffset := 40 }, { name := "High", type := 9, offset := 6, embedded := Bool.false, tag := "", pkgPath := "", byteOffset := 56 }, { name := "First", type := 2, offset := 7, embedded := Bool.false, tag := "", pkgPath := "", byteOffset := 72 }, { name := "Last", type := 2, offset := 8, embedded := Bool.false, tag := "", pkgPath := "", byteOffset := 80 }, { name := "Records", type := 2, offset := 9, embedded := Bool.false, tag := "", pkgPath := "", byteOffset := 88 }]), 10, 96, (.agg #[(.int .i64 0), (.int .i64 0), (.int .i64 0), (.int .i64 0), (.int .i64 0), (.string ⟨#[]⟩), (.string ⟨#[]⟩), (.int .i64 0), (.int .i64 0), (.int .i64 0)])⟩),
  (234, ⟨(Go.TypeDesc.pointer 231), 1, 8, (.pointer none)⟩),
  (236, ⟨(Go.TypeDesc.func #[231] #[4] Bool.false), 1, 8, .nilFunc⟩),
  (284, ⟨(Go.TypeDesc.slice 3), 1, 24, (.slice none 0 0)⟩)]

theorem tys_ok : ∀ p ∈ tys, ∃ ti, Try.prog.info? p.1 = some ti ∧ Try.prog.underlying p.1 = some p.2.desc ∧ ti.size = p.2.size ∧ ti.bytes = p.2.bytes ∧ ti.zero = some p.2.zero := by
  intro p hp
  simp only [tys, List.mem_cons, List.not_mem_nil, or_false] at hp
  rcases hp with rfl | rfl | rfl | rfl | rfl | rfl | rfl | rfl | rfl | rfl | rfl | rfl | rfl | rfl | rfl | rfl | rfl | rfl | rfl | rfl | rfl | rfl
  · exact info_of (by kernel_rfl) Try.underlying2
  · exact info_of (by kernel_rfl) Try.underlying3
  · exact info_of (by kernel_rfl) Try.underlying4
  · exact info_of (by kernel_rfl) Try.underlying5
  · exact info_of (by kernel_rfl) Try.underlying9
  · exact info_of (by kernel_rfl) Try.underlying22
  · exact info_of (by kernel_rfl) Try.underlying34
  · exact info_of (by kernel_rfl) Try.underlying56
  · exact info_of (by kernel_rfl) Try.underlying65
  · exact info_of (by kernel_rfl) Try.underlying66
  · exact info_of (by kernel_rfl) Try.underlying111
  · exact info_of (by kernel_rfl) Try.underlying115
  · exact info_of (by kernel_rfl) Try.underlying143
  · exact info_of (by kernel_rfl) Try.underlying145
  · exact info_of (by kernel_rfl) Try.underlying152
  · exact info_of (by kernel_rfl) Try.underlying154
  · exact info_of (by kernel_rfl) Try.underlying163
  · exact info_of (by kernel_rfl) Try.underlying203
  · exact info_of (by kernel_rfl) Try.underlying231
  · exact info_of (by kernel_rfl) Try.underlying234
  · exact info_of (by kernel_rfl) Try.underlying236
  · exact info_of (by kernel_rfl) Try.underlying284

noncomputable def fns : List (Nat × Func) := [(186, Try.f186), (215, Try.f215), (118, Try.f118), (276, Try.f276), (216, Try.f216), (119, Try.f119), (217, Try.f217), (218, Try.f218), (226, Try.f226), (134, Try.f134), (307, Try.f307), (277, Try.f277), (219, Try.f219), (135, Try.f135), (44, Try.f44), (278, Try.f278), (220, Try.f220), (122, Try.f122), (80, Try.f80), (123, Try.f123), (84, Try.f84), (221, Try.f221), (125, Try.f125), (126, Try.f126), (151, Try.f151), (222, Try.f222), (308, Try.f308), (280, Try.f280), (281, Try.f281), (244, Try.f244), (287, Try.f287), (245, Try.f245), (282, Try.f282), (227, Try.f227), (136, Try.f136), (45, Try.f45), (225, Try.f225), (129, Try.f129), (46, Try.f46), (114, Try.f114), (131, Try.f131), (47, Try.f47), (133, Try.f133), (48, Try.f48), (7, Try.f7)]

theorem fns_ok : ∀ p ∈ fns, Try.prog.funcs[p.1]? = some p.2 ∧ (p.2.name == "runtime.NumGoroutine") = false ∧ drawsF [7, 46, 48, 84, 122, 129, 133, 135, 136, 151, 186, 204, 215, 217, 219, 220, 222, 225, 227, 244, 245, 276, 278, 282, 287, 307, 1000022, 2000058, 2000065, 2000076, 2000194, 2000213, 2000267, 3000009] [44] p.2 = true := by
  intro p hp
  simp only [fns, List.mem_cons, List.not_mem_nil, or_false] at hp
  rcases hp with rfl | rfl | rfl | rfl | rfl | rfl | rfl | rfl | rfl | rfl | rfl | rfl | rfl | rfl | rfl | rfl | rfl | rfl | rfl | rfl | rfl | rfl | rfl | rfl | rfl | rfl | rfl | rfl | rfl | rfl | rfl | rfl | rfl | rfl | rfl | rfl | rfl | rfl | rfl | rfl | rfl | rfl | rfl | rfl | rfl
  · exact ⟨Try.func186, by kernel_rfl, by kernel_rfl⟩
  · exact ⟨Try.func215, by kernel_rfl, by kernel_rfl⟩
  · exact ⟨Try.func118, by kernel_rfl, by kernel_rfl⟩
  · exact ⟨Try.func276, by kernel_rfl, by kernel_rfl⟩
  · exact ⟨Try.func216, by kernel_rfl, by kernel_rfl⟩
  · exact ⟨Try.func119, by kernel_rfl, by kernel_rfl⟩
  · exact ⟨Try.func217, by kernel_rfl, by kernel_rfl⟩
  · exact ⟨Try.func218, by kernel_rfl, by kernel_rfl⟩
  · exact ⟨Try.func226, by kernel_rfl, by kernel_rfl⟩
  · exact ⟨Try.func134, by kernel_rfl, by kernel_rfl⟩
  · exact ⟨Try.func307, by kernel_rfl, by kernel_rfl⟩
  · exact ⟨Try.func277, by kernel_rfl, by kernel_rfl⟩
  · exact ⟨Try.func219, by kernel_rfl, by kernel_rfl⟩
  · exact ⟨Try.func135, by kernel_rfl, by kernel_rfl⟩
  · exact ⟨Try.func44, by kernel_rfl, by kernel_rfl⟩
  · exact ⟨Try.func278, by kernel_rfl, by kernel_rfl⟩
  · exact ⟨Try.func220, by kernel_rfl, by kernel_rfl⟩
  · exact ⟨Try.func122, by kernel_rfl, by kernel_rfl⟩
  · exact ⟨Try.func80, by kernel_rfl, by kernel_rfl⟩
  · exact ⟨Try.func123, by kernel_rfl, by kernel_rfl⟩
  · exact ⟨Try.func84, by kernel_rfl, by kernel_rfl⟩
  · exact ⟨Try.func221, by kernel_rfl, by kernel_rfl⟩
  · exact ⟨Try.func125, by kernel_rfl, by kernel_rfl⟩
  · exact ⟨Try.func126, by kernel_rfl, by kernel_rfl⟩
  · exact ⟨Try.func151, by kernel_rfl, by kernel_rfl⟩
  · exact ⟨Try.func222, by kernel_rfl, by kernel_rfl⟩
  · exact ⟨Try.func308, by kernel_rfl, by kernel_rfl⟩
  · exact ⟨Try.func280, by kernel_rfl, by kernel_rfl⟩
  · exact ⟨Try.func281, by kernel_rfl, by kernel_rfl⟩
  · exact ⟨Try.func244, by kernel_rfl, by kernel_rfl⟩
  · exact ⟨Try.func287, by kernel_rfl, by kernel_rfl⟩
  · exact ⟨Try.func245, by kernel_rfl, by kernel_rfl⟩
  · exact ⟨Try.func282, by kernel_rfl, by kernel_rfl⟩
  · exact ⟨Try.func227, by kernel_rfl, by kernel_rfl⟩
  · exact ⟨Try.func136, by kernel_rfl, by kernel_rfl⟩
  · exact ⟨Try.func45, by kernel_rfl, by kernel_rfl⟩
  · exact ⟨Try.func225, by kernel_rfl, by kernel_rfl⟩
  · exact ⟨Try.func129, by kernel_rfl, by kernel_rfl⟩
  · exact ⟨Try.func46, by kernel_rfl, by kernel_rfl⟩
  · exact ⟨Try.func114, by kernel_rfl, by kernel_rfl⟩
  · exact ⟨Try.func131, by kernel_rfl, by kernel_rfl⟩
  · exact ⟨Try.func47, by kernel_rfl, by kernel_rfl⟩
  · exact ⟨Try.func133, by kernel_rfl, by kernel_rfl⟩
  · exact ⟨Try.func48, by kernel_rfl, by kernel_rfl⟩
  · exact ⟨Try.func7, by kernel_rfl, by kernel_rfl⟩

set_option maxHeartbeats 1000000 in
set_option maxRecDepth 100000 in
theorem bytealg_CompareString (a b : ByteArray) (w : World) :
    Calls Try.prog 271 #[.string a, .string b] w fun e w' => e = .returned (.int .i64 (Lib.compareBytes a.data.toList b.data.toList)) ∧ w' = w := by
  go_enter Try.func271, Try.ntmps271
  go_wp2
  rw [run_callFunc_extern Try.func305 (by kernel_rfl) (by kernel_rfl) (by kernel_rfl) (e := Extern.BytealgCompare.compare) (by kernel_rfl), Lib.run_compareString]
  simp only [Result.andThen]
  rw [Oper.upon_value]
  go_wp2
  go_ret
  exact ⟨rfl, rfl⟩

#print axioms bytealg_CompareString

set_option maxHeartbeats 1000000 in
theorem strings_Compare (a b : ByteArray) (w : World) :
    Calls Try.prog 204 #[.string a, .string b] w fun e w' => e = .returned (.int .i64 (Lib.compareBytes a.data.toList b.data.toList)) ∧ w' = w := by
  go_enter Try.func204, Try.ntmps204
  go_wp2_with (go_at_call 271; refine (bytealg_CompareString _ _ _).mono ?_; rintro e w' ⟨rfl, rfl⟩)
  go_ret
  exact ⟨rfl, rfl⟩

noncomputable def g204 : List V → Option V := fun args => match args with
  | [.d (.lit (.string a)), .d (.lit (.string b))] => some (.d (.lit (.int .i64 (Lib.compareBytes a.data.toList b.data.toList))))
  | _ => none

noncomputable def ext : List (Nat × (List V → Fo → Option (V × Fo))) := [(204, fun args F => match g204 args with | some v => some (v, F) | none => none)]

theorem ext_ok : ∀ p ∈ ext, ExtOK Try.prog p.1 p.2 := by
  intro p hp
  simp only [ext, List.mem_cons, List.not_mem_nil, or_false] at hp
  rcases hp with rfl
  · exact ext_scal ⟨Try.f204, Try.func204, by kernel_rfl, by kernel_rfl⟩ (fun args v h => by
      unfold g204 at h
      split at h
      · injection h with h
        subst h
        exact ⟨rfl, _, rfl, rfl, fun w => strings_Compare _ _ w⟩
      · simp at h)

noncomputable def eqs : List (Nat × List (Nat × Nat)) := []

theorem eqs_ok : ∀ p ∈ eqs, Try.prog.stoodInHeld p.1 = false ∧ Try.prog.eqGuardType Try.prog.depth p.1 = false ∧ (∃ fs, Try.prog.underlying p.1 = some (.struct fs) ∧ eqFits Try.prog fs.toList p.2 = true) := by
  intro p hp
  exact absurd hp List.not_mem_nil

noncomputable def E : Env := { tys := tys, fns := fns, own := [45, 80, 114, 123, 125], keep := [(186, [(4, [0, 3])]), (215, [(3, [0, 5, 6])]), (119, [(4, [0, 3, 4, 5])]), (134, [(4, [0, 3]), (10, [0, 3, 4, 5])]), (219, [(3, [0, 3, 4])]), (80, [(3, [0, 5, 6])]), (125, [(3, [0, 3, 4])]), (308, [(2, [0, 1, 7, 8])]), (244, [(3, [3, 6, 7, 8])]), (227, [(2, [1, 7, 8, 9])]), (129, [(4, [0, 1, 5])]), (114, [(4, [0, 3])]), (131, [(2, [0, 1, 5])]), (133, [(2, [0, 1, 5])])], handN := [47, 131, 280, 308], scal := [7, 46, 48, 84, 122, 129, 133, 135, 136, 151, 186, 204, 215, 217, 219, 220, 222, 225, 227, 244, 245, 276, 278, 282, 287, 307, 1000022, 2000058, 2000065, 2000076, 2000194, 2000213, 2000267, 3000009], pur := [44], takeN := [], ext := ext, eqs := eqs }

theorem ok : EnvOK E Try.prog := ⟨look_all tys_ok, look_all fns_ok, by kernel_rfl, look_all (l := tys) (Q := fun _ (i : TI) => i.zero.cells.size = i.size) (by
  intro p hp
  simp only [tys, List.mem_cons, List.not_mem_nil, or_false] at hp
  rcases hp with rfl | rfl | rfl | rfl | rfl | rfl | rfl | rfl | rfl | rfl | rfl | rfl | rfl | rfl | rfl | rfl | rfl | rfl | rfl | rfl | rfl | rfl <;> rfl), look_all ext_ok, look_all (l := eqs) (Q := fun t l => Try.prog.stoodInHeld t = false ∧ Try.prog.eqGuardType Try.prog.depth t = false ∧ (∃ fs, Try.prog.underlying t = some (.struct fs) ∧ eqFits Try.prog fs.toList l = true)) eqs_ok⟩

end Go.Proofs.Ytjphojijobhdiaa.T05

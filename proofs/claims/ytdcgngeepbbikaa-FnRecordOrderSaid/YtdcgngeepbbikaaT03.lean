/- The engine's tables for laws.FnRecordOrder, and that they are the program's own; conditions: none. -/

import Derived.Test.YtdcgngeepbbikaaEsi
import Derived.Test.YtdcgngeepbbikaaChecked
import Derived.KernelRfl
import Derived.Lib.Strings
import Derived.Lib.Slices
import Derived.Lib.Walk
import Derived.Lib.Bytealg
import Derived.Test.YtdcgngeepbbikaaEsf
import Derived.Test.YtdcgngeepbbikaaKK0
namespace Go.Proofs.Ytdcgngeepbbikaa.T03
open Go.Proofs.YtdcgngeepbbikaaE

noncomputable def tys : List (Nat × TI) := [(2, ⟨(Go.TypeDesc.int Go.IntKind.i64), 1, 8, (.int .i64 0)⟩),
  (3, ⟨(Go.TypeDesc.int Go.IntKind.i64), 1, 8, (.int .i64 0)⟩),
  (4, ⟨Go.TypeDesc.bool, 1, 1, (.bool false)⟩),
  (5, ⟨(Go.TypeDesc.int Go.IntKind.u8), 1, 1, (.int .u8 0)⟩),
  (9, ⟨Go.TypeDesc.string, 1, 16, (.string ⟨#[]⟩)⟩),
  (22, ⟨(Go.TypeDesc.slice 5), 1, 24, (.slice none 0 0)⟩),
  (23, ⟨(Go.TypeDesc.slice 9), 1, 24, (.slice none 0 0)⟩),
  (46, ⟨(Go.TypeDesc.struct #[{ name := "Key", type := 9, offset := 0, embedded := Bool.false, tag := "", pkgPath := "", byteOffset := 0 }, { name := "Seq", type := 2, offset := 1, embedded := Bool.false, tag := "", pkgPath := "", byteOffset := 16 }, { name := "Kind", type := 2, offset := 2, embedded := Bool.false, tag := "", pkgPath := "", byteOffset := 24 }, { name := "Value", type := 9, offset := 3, embedded := Bool.false, tag := "", pkgPath := "", byteOffset := 32 }, { name := "End", type := 9, offset := 4, embedded := Bool.false, tag := "", pkgPath := "", byteOffset := 48 }]), 5, 64, (.agg #[(.string ⟨#[]⟩), (.int .i64 0), (.int .i64 0), (.string ⟨#[]⟩), (.string ⟨#[]⟩)])⟩),
  (49, ⟨(Go.TypeDesc.slice 46), 1, 24, (.slice none 0 0)⟩),
  (53, ⟨(Go.TypeDesc.func #[46] #[4] Bool.false), 1, 8, .nilFunc⟩),
  (59, ⟨(Go.TypeDesc.slice 2), 1, 24, (.slice none 0 0)⟩),
  (120, ⟨(Go.TypeDesc.pointer 198), 1, 8, (.pointer none)⟩),
  (144, ⟨(Go.TypeDesc.func #[46, 46] #[3] Bool.false), 1, 8, .nilFunc⟩),
  (196, ⟨(Go.TypeDesc.int Go.IntKind.u64), 1, 8, (.int .u64 0)⟩),
  (198, ⟨(Go.TypeDesc.struct #[{ name := "code", type := 22, offset := 0, embedded := Bool.false, tag := "", pkgPath := "loop.example/g00905/spec", byteOffset := 0 }, { name := "at", type := 3, offset := 1, embedded := Bool.false, tag := "", pkgPath := "loop.example/g00905/spec", byteOffset := 24 }, { name := "seed", type := 196, offset := 2, embedded := Bool.false, tag := "", pkgPath := "loop.example/g00905/spec", byteOffset := 32 }]), 3, 40, (.agg #[(.slice none 0 0), (.int .i64 0), (.int .u64 0)])⟩),
  (271, ⟨(Go.TypeDesc.slice 3), 1, 24, (.slice none 0 0)⟩)]

theorem tys_ok : ∀ p ∈ tys, ∃ ti, Try.prog.info? p.1 = some ti ∧ Try.prog.underlying p.1 = some p.2.desc ∧ ti.size = p.2.size ∧ ti.bytes = p.2.bytes ∧ ti.zero = some p.2.zero := by
  intro p hp
  simp only [tys, List.mem_cons, List.not_mem_nil, or_false] at hp
  rcases hp with rfl | rfl | rfl | rfl | rfl | rfl | rfl | rfl | rfl | rfl | rfl | rfl | rfl | rfl | rfl | rfl
  · exact info_of (by kernel_rfl) Try.underlying2
  · exact info_of (by kernel_rfl) Try.underlying3
  · exact info_of (by kernel_rfl) Try.underlying4
  · exact info_of (by kernel_rfl) Try.underlying5
  · exact info_of (by kernel_rfl) Try.underlying9
  · exact info_of (by kernel_rfl) Try.underlying22
  · exact info_of (by kernel_rfl) Try.underlying23
  · exact info_of (by kernel_rfl) Try.underlying46
  · exact info_of (by kernel_rfl) Try.underlying49
  · exact info_of (by kernel_rfl) Try.underlying53
  · exact info_of (by kernel_rfl) Try.underlying59
  · exact info_of (by kernel_rfl) Try.underlying120
  · exact info_of (by kernel_rfl) Try.underlying144
  · exact info_of (by kernel_rfl) Try.underlying196
  · exact info_of (by kernel_rfl) Try.underlying198
  · exact info_of (by kernel_rfl) Try.underlying271

noncomputable def fns : List (Nat × Func) := [(61, Try.f61), (14, Try.f14), (79, Try.f79), (193, Try.f193), (101, Try.f101), (194, Try.f194), (145, Try.f145), (161, Try.f161), (102, Try.f102), (29, Try.f29), (195, Try.f195), (257, Try.f257), (197, Try.f197), (103, Try.f103), (30, Try.f30), (198, Try.f198), (199, Try.f199), (104, Try.f104), (31, Try.f31), (147, Try.f147), (105, Try.f105), (84, Try.f84), (82, Try.f82), (108, Try.f108), (107, Try.f107), (110, Try.f110), (32, Try.f32), (33, Try.f33), (130, Try.f130), (202, Try.f202), (111, Try.f111), (34, Try.f34), (112, Try.f112), (35, Try.f35), (5, Try.f5)]

theorem fns_ok : ∀ p ∈ fns, Try.prog.funcs[p.1]? = some p.2 ∧ (p.2.name == "runtime.NumGoroutine") = false ∧ drawsF [5, 29, 30, 33, 34, 35, 61, 82, 84, 103, 107, 108, 111, 112, 130, 195, 196, 197, 202, 257, 2000071, 2000073, 2000080, 2000083, 2000108, 2000155, 2000198, 2000205] [14, 31, 32, 104] p.2 = true := by
  intro p hp
  simp only [fns, List.mem_cons, List.not_mem_nil, or_false] at hp
  rcases hp with rfl | rfl | rfl | rfl | rfl | rfl | rfl | rfl | rfl | rfl | rfl | rfl | rfl | rfl | rfl | rfl | rfl | rfl | rfl | rfl | rfl | rfl | rfl | rfl | rfl | rfl | rfl | rfl | rfl | rfl | rfl | rfl | rfl | rfl | rfl
  · exact ⟨Try.func61, by kernel_rfl, by kernel_rfl⟩
  · exact ⟨Try.func14, by kernel_rfl, by kernel_rfl⟩
  · exact ⟨Try.func79, by kernel_rfl, by kernel_rfl⟩
  · exact ⟨Try.func193, by kernel_rfl, by kernel_rfl⟩
  · exact ⟨Try.func101, by kernel_rfl, by kernel_rfl⟩
  · exact ⟨Try.func194, by kernel_rfl, by kernel_rfl⟩
  · exact ⟨Try.func145, by kernel_rfl, by kernel_rfl⟩
  · exact ⟨Try.func161, by kernel_rfl, by kernel_rfl⟩
  · exact ⟨Try.func102, by kernel_rfl, by kernel_rfl⟩
  · exact ⟨Try.func29, by kernel_rfl, by kernel_rfl⟩
  · exact ⟨Try.func195, by kernel_rfl, by kernel_rfl⟩
  · exact ⟨Try.func257, by kernel_rfl, by kernel_rfl⟩
  · exact ⟨Try.func197, by kernel_rfl, by kernel_rfl⟩
  · exact ⟨Try.func103, by kernel_rfl, by kernel_rfl⟩
  · exact ⟨Try.func30, by kernel_rfl, by kernel_rfl⟩
  · exact ⟨Try.func198, by kernel_rfl, by kernel_rfl⟩
  · exact ⟨Try.func199, by kernel_rfl, by kernel_rfl⟩
  · exact ⟨Try.func104, by kernel_rfl, by kernel_rfl⟩
  · exact ⟨Try.func31, by kernel_rfl, by kernel_rfl⟩
  · exact ⟨Try.func147, by kernel_rfl, by kernel_rfl⟩
  · exact ⟨Try.func105, by kernel_rfl, by kernel_rfl⟩
  · exact ⟨Try.func84, by kernel_rfl, by kernel_rfl⟩
  · exact ⟨Try.func82, by kernel_rfl, by kernel_rfl⟩
  · exact ⟨Try.func108, by kernel_rfl, by kernel_rfl⟩
  · exact ⟨Try.func107, by kernel_rfl, by kernel_rfl⟩
  · exact ⟨Try.func110, by kernel_rfl, by kernel_rfl⟩
  · exact ⟨Try.func32, by kernel_rfl, by kernel_rfl⟩
  · exact ⟨Try.func33, by kernel_rfl, by kernel_rfl⟩
  · exact ⟨Try.func130, by kernel_rfl, by kernel_rfl⟩
  · exact ⟨Try.func202, by kernel_rfl, by kernel_rfl⟩
  · exact ⟨Try.func111, by kernel_rfl, by kernel_rfl⟩
  · exact ⟨Try.func34, by kernel_rfl, by kernel_rfl⟩
  · exact ⟨Try.func112, by kernel_rfl, by kernel_rfl⟩
  · exact ⟨Try.func35, by kernel_rfl, by kernel_rfl⟩
  · exact ⟨Try.func5, by kernel_rfl, by kernel_rfl⟩

set_option maxHeartbeats 1000000 in
set_option maxRecDepth 100000 in
theorem bytealg_CompareString (a b : ByteArray) (w : World) :
    Calls Try.prog 256 #[.string a, .string b] w fun e w' => e = .returned (.int .i64 (Lib.compareBytes a.data.toList b.data.toList)) ∧ w' = w := by
  go_enter Try.func256, Try.ntmps256
  go_wp2
  rw [run_callFunc_extern Try.func293 (by kernel_rfl) (by kernel_rfl) (by kernel_rfl) (e := Extern.BytealgCompare.compare) (by kernel_rfl), Lib.run_compareString]
  simp only [Result.andThen]
  rw [Oper.upon_value]
  go_wp2
  go_ret
  exact ⟨rfl, rfl⟩

#print axioms bytealg_CompareString

set_option maxHeartbeats 1000000 in
theorem strings_Compare (a b : ByteArray) (w : World) :
    Calls Try.prog 196 #[.string a, .string b] w fun e w' => e = .returned (.int .i64 (Lib.compareBytes a.data.toList b.data.toList)) ∧ w' = w := by
  go_enter Try.func196, Try.ntmps196
  go_wp2_with (go_at_call 256; refine (bytealg_CompareString _ _ _).mono ?_; rintro e w' ⟨rfl, rfl⟩)
  go_ret
  exact ⟨rfl, rfl⟩

def laysSortF109_ren : Go.Shelf.Ren := ⟨fun | 6 => 109 | 15 => 201 | 14 => 200 | 28 => 266 | 29 => 267 | 20 => 258 | 21 => 259 | 22 => 260 | 23 => 261 | 24 => 262 | 25 => 263 | 26 => 264 | 27 => 265 | 46 => 294 | 47 => 295 | 48 => 296 | 49 => 297 | 50 => 298 | 57 => 326 | n => n, fun | 22 => 49 | 24 => 46 | 25 => 144 | 3 => 3 | 39 => 200 | 0 => 0 | 53 => 262 | 55 => 196 | 4 => 4 | 46 => 274 | 45 => 273 | 50 => 278 | 5 => 5 | 9 => 9 | 66 => 304 | 70 => 308 | 76 => 325 | 77 => 326 | n => n, fun | n => n⟩
theorem laysSortF109 : Go.Proofs.SlLaysF0.n6 Try.prog laysSortF109_ren := {
  mixed := by kernel_rfl
  f6 := ⟨Try.f109.name, by decide, Try.func109.trans (congrArg some (by kernel_rfl))⟩
  f14 := ⟨Try.f200.name, by decide, Try.func200.trans (congrArg some (by kernel_rfl))⟩
  f15 := Try.func201.trans (congrArg some (by kernel_rfl))
  f20 := ⟨Try.f258.name, by decide, Try.func258.trans (congrArg some (by kernel_rfl))⟩
  f21 := ⟨Try.f259.name, by decide, Try.func259.trans (congrArg some (by kernel_rfl))⟩
  f22 := ⟨Try.f260.name, by decide, Try.func260.trans (congrArg some (by kernel_rfl))⟩
  f23 := ⟨Try.f261.name, by decide, Try.func261.trans (congrArg some (by kernel_rfl))⟩
  f24 := ⟨Try.f262.name, by decide, Try.func262.trans (congrArg some (by kernel_rfl))⟩
  f25 := ⟨Try.f263.name, by decide, Try.func263.trans (congrArg some (by kernel_rfl))⟩
  f26 := ⟨Try.f264.name, by decide, Try.func264.trans (congrArg some (by kernel_rfl))⟩
  f27 := ⟨Try.f265.name, by decide, Try.func265.trans (congrArg some (by kernel_rfl))⟩
  f28 := Try.func266.trans (congrArg some (by kernel_rfl))
  f29 := Try.func267.trans (congrArg some (by kernel_rfl))
  f46 := ⟨Try.f294.name, by decide, Try.func294.trans (congrArg some (by kernel_rfl))⟩
  f47 := Try.func295.trans (congrArg some (by kernel_rfl))
  f48 := Try.func296.trans (congrArg some (by kernel_rfl))
  f49 := ⟨Try.f297.name, by decide, Try.func297.trans (congrArg some (by kernel_rfl))⟩
  f50 := ⟨Try.f298.name, by decide, Try.func298.trans (congrArg some (by kernel_rfl))⟩
  f57 := ⟨Try.f326.name, by decide, Try.func326.trans (congrArg some (by kernel_rfl))⟩
  t0 := Try.underlying0
  a0 := Try.isAgg0
  z0 := Try.sizeOf0
  v0 := Try.zeroValue0
  t3 := Try.underlying3
  a3 := Try.isAgg3
  z3 := Try.sizeOf3
  v3 := Try.zeroValue3
  t4 := Try.underlying4
  a4 := Try.isAgg4
  z4 := Try.sizeOf4
  v4 := Try.zeroValue4
  t5 := Try.underlying5
  a5 := Try.isAgg5
  z5 := Try.sizeOf5
  v5 := Try.zeroValue5
  t9 := Try.underlying9
  a9 := Try.isAgg9
  z9 := Try.sizeOf9
  v9 := Try.zeroValue9
  t22 := Try.underlying49
  a22 := Try.isAgg49
  z22 := Try.sizeOf49
  v22 := Try.zeroValue49
  t25 := Try.underlying144
  a25 := Try.isAgg144
  z25 := Try.sizeOf144
  v25 := Try.zeroValue144
  t39 := Try.underlying200
  a39 := Try.isAgg200
  z39 := Try.sizeOf200
  v39 := Try.zeroValue200
  t45 := Try.underlying273
  a45 := Try.isAgg273
  z45 := Try.sizeOf273
  v45 := Try.zeroValue273
  t46 := Try.underlying274
  a46 := Try.isAgg274
  z46 := Try.sizeOf274
  v46 := Try.zeroValue274
  t50 := Try.underlying278
  a50 := Try.isAgg278
  z50 := Try.sizeOf278
  v50 := Try.zeroValue278
  t53 := Try.underlying262
  a53 := Try.isAgg262
  z53 := Try.sizeOf262
  v53 := Try.zeroValue262
  t55 := Try.underlying196
  a55 := Try.isAgg196
  z55 := Try.sizeOf196
  v55 := Try.zeroValue196
  t66 := Try.underlying304
  a66 := Try.isAgg304
  z66 := Try.sizeOf304
  v66 := Try.zeroValue304
  t70 := Try.underlying308
  a70 := Try.isAgg308
  z70 := Try.sizeOf308
  v70 := Try.zeroValue308
  t76 := Try.underlying325
  a76 := Try.isAgg325
  z76 := Try.sizeOf325
  v76 := Try.zeroValue325
  t77 := Try.underlying326
  a77 := Try.isAgg326
  z77 := Try.sizeOf326
  v77 := Try.zeroValue326 }

noncomputable def g196 : List V → Option V := fun args => match args with
  | [.d (.lit (.string a)), .d (.lit (.string b))] => some (.d (.lit (.int .i64 (Lib.compareBytes a.data.toList b.data.toList))))
  | _ => none

noncomputable def ext : List (Nat × (List V → Fo → Option (V × Fo))) := [(196, fun args F => match g196 args with | some v => some (v, F) | none => none),
  (106, extClone 46 ⟨(Go.TypeDesc.struct #[{ name := "Key", type := 9, offset := 0, embedded := Bool.false, tag := "", pkgPath := "", byteOffset := 0 }, { name := "Seq", type := 2, offset := 1, embedded := Bool.false, tag := "", pkgPath := "", byteOffset := 16 }, { name := "Kind", type := 2, offset := 2, embedded := Bool.false, tag := "", pkgPath := "", byteOffset := 24 }, { name := "Value", type := 9, offset := 3, embedded := Bool.false, tag := "", pkgPath := "", byteOffset := 32 }, { name := "End", type := 9, offset := 4, embedded := Bool.false, tag := "", pkgPath := "", byteOffset := 48 }]), 5, 64, (.agg #[(.string ⟨#[]⟩), (.int .i64 0), (.int .i64 0), (.string ⟨#[]⟩), (.string ⟨#[]⟩)])⟩),
  (109, extSortF 103 TK0.decR TK0.encR 5 TK0.cmpR)]

theorem ext_ok : ∀ p ∈ ext, ExtOK Try.prog p.1 p.2 := by
  intro p hp
  simp only [ext, List.mem_cons, List.not_mem_nil, or_false] at hp
  rcases hp with rfl | rfl | rfl
  · exact ext_scal ⟨Try.f196, Try.func196, by kernel_rfl, by kernel_rfl⟩ (fun args v h => by
      unfold g196 at h
      split at h
      · injection h with h
        subst h
        exact ⟨rfl, _, rfl, rfl, fun w => strings_Compare _ _ w⟩
      · simp at h)
  · exact ext_clone (s := 49) (b := 4) (clone_lays (is := ⟨(Go.TypeDesc.slice 46), 1, 24, (.slice none 0 0)⟩) (ib := ⟨Go.TypeDesc.bool, 1, 1, (.bool false)⟩) (by kernel_rfl) ⟨_, by kernel_rfl, Try.func106⟩ (look_all tys_ok 49 _ rfl) (look_all tys_ok 4 _ rfl) rfl rfl rfl rfl rfl rfl) ⟨Try.f106, Try.func106, by kernel_rfl, by kernel_rfl⟩ (look_all tys_ok 46 _ rfl) rfl
  · exact ext_sortF (ρ := laysSortF109_ren) (g := 103) rfl laysSortF109 ⟨Try.f109, Try.func109, by kernel_rfl, by kernel_rfl⟩ (Try.isAgg46) (Try.sizeOf46) TK0.dec_inv (by decide) TK0.enc_len TK0.enc_one TK0.swo TK0.tot (enters_of Try.func103 (by kernel_rfl) rfl) TK0.lays

noncomputable def eqs : List (Nat × List (Nat × Nat)) := [(46, [(0, 2), (1, 0), (2, 0), (3, 2), (4, 2)])]

theorem eqs_ok : ∀ p ∈ eqs, Try.prog.stoodInHeld p.1 = false ∧ Try.prog.eqGuardType Try.prog.depth p.1 = false ∧ (∃ fs, Try.prog.underlying p.1 = some (.struct fs) ∧ eqFits Try.prog fs.toList p.2 = true) := by
  intro p hp
  simp only [eqs, List.mem_cons, List.not_mem_nil, or_false] at hp
  rcases hp with rfl
  · exact ⟨by kernel_rfl, by kernel_rfl, _, Try.underlying46, by kernel_rfl⟩

noncomputable def E : Env := { tys := tys, fns := fns, own := [105, 110], keep := [(61, [(5, [0, 2, 7, 8])]), (195, [(3, [3, 6, 7, 8])]), (104, [(4, [3, 4, 5])]), (147, [(2, [0, 1, 7, 8])]), (105, [(5, [0, 1, 5, 6])]), (110, [(4, [0, 3]), (9, [0, 3, 4, 5])]), (33, [(4, [0, 1, 5])]), (5, [(16, [7, 8, 9]), (23, [10, 11])])], handN := [106, 109, 147], scal := [5, 29, 30, 33, 34, 35, 61, 82, 84, 103, 107, 108, 111, 112, 130, 195, 196, 197, 202, 257, 2000071, 2000073, 2000080, 2000083, 2000108, 2000155, 2000198, 2000205], pur := [14, 31, 32, 104], takeN := [105, 110], ext := ext, eqs := eqs }

theorem ok : EnvOK E Try.prog := ⟨look_all tys_ok, look_all fns_ok, by kernel_rfl, look_all (l := tys) (Q := fun _ (i : TI) => i.zero.cells.size = i.size) (by
  intro p hp
  simp only [tys, List.mem_cons, List.not_mem_nil, or_false] at hp
  rcases hp with rfl | rfl | rfl | rfl | rfl | rfl | rfl | rfl | rfl | rfl | rfl | rfl | rfl | rfl | rfl | rfl <;> rfl), look_all ext_ok, look_all (l := eqs) (Q := fun t l => Try.prog.stoodInHeld t = false ∧ Try.prog.eqGuardType Try.prog.depth t = false ∧ (∃ fs, Try.prog.underlying t = some (.struct fs) ∧ eqFits Try.prog fs.toList l = true)) eqs_ok⟩

end Go.Proofs.Ytdcgngeepbbikaa.T03

/- The engine's tables for laws.FnBloomNoMiss, and that they are the program's own; conditions: none. -/

import Derived.Test.YtdcgngeepbbikaaEsi
import Derived.Test.YtdcgngeepbbikaaChecked
import Derived.KernelRfl
import Derived.Test.YtdcgngeepbbikaaEsr
namespace Go.Proofs.Ytdcgngeepbbikaa.T01
open Go.Proofs.YtdcgngeepbbikaaE

noncomputable def tys : List (Nat × TI) := [(2, ⟨(Go.TypeDesc.int Go.IntKind.i64), 1, 8, (.int .i64 0)⟩),
  (3, ⟨(Go.TypeDesc.int Go.IntKind.i64), 1, 8, (.int .i64 0)⟩),
  (4, ⟨Go.TypeDesc.bool, 1, 1, (.bool false)⟩),
  (5, ⟨(Go.TypeDesc.int Go.IntKind.u8), 1, 1, (.int .u8 0)⟩),
  (9, ⟨Go.TypeDesc.string, 1, 16, (.string ⟨#[]⟩)⟩),
  (22, ⟨(Go.TypeDesc.slice 5), 1, 24, (.slice none 0 0)⟩),
  (23, ⟨(Go.TypeDesc.slice 9), 1, 24, (.slice none 0 0)⟩),
  (26, ⟨(Go.TypeDesc.tuple #[9, 2]), 1, 0, (.tuple #[(.string ⟨#[]⟩), (.int .i64 0)])⟩),
  (59, ⟨(Go.TypeDesc.slice 2), 1, 24, (.slice none 0 0)⟩),
  (120, ⟨(Go.TypeDesc.pointer 198), 1, 8, (.pointer none)⟩),
  (123, ⟨(Go.TypeDesc.func #[9] #[4] Bool.false), 1, 8, .nilFunc⟩),
  (158, ⟨(Go.TypeDesc.func #[2] #[4] Bool.false), 1, 8, .nilFunc⟩),
  (196, ⟨(Go.TypeDesc.int Go.IntKind.u64), 1, 8, (.int .u64 0)⟩),
  (198, ⟨(Go.TypeDesc.struct #[{ name := "code", type := 22, offset := 0, embedded := Bool.false, tag := "", pkgPath := "loop.example/g00905/spec", byteOffset := 0 }, { name := "at", type := 3, offset := 1, embedded := Bool.false, tag := "", pkgPath := "loop.example/g00905/spec", byteOffset := 24 }, { name := "seed", type := 196, offset := 2, embedded := Bool.false, tag := "", pkgPath := "loop.example/g00905/spec", byteOffset := 32 }]), 3, 40, (.agg #[(.slice none 0 0), (.int .i64 0), (.int .u64 0)])⟩),
  (262, ⟨(Go.TypeDesc.int Go.IntKind.u32), 1, 4, (.int .u32 0)⟩)]

theorem tys_ok : ∀ p ∈ tys, ∃ ti, Try.prog.info? p.1 = some ti ∧ Try.prog.underlying p.1 = some p.2.desc ∧ ti.size = p.2.size ∧ ti.bytes = p.2.bytes ∧ ti.zero = some p.2.zero := by
  intro p hp
  simp only [tys, List.mem_cons, List.not_mem_nil, or_false] at hp
  rcases hp with rfl | rfl | rfl | rfl | rfl | rfl | rfl | rfl | rfl | rfl | rfl | rfl | rfl | rfl | rfl
  · exact info_of (by kernel_rfl) Try.underlying2
  · exact info_of (by kernel_rfl) Try.underlying3
  · exact info_of (by kernel_rfl) Try.underlying4
  · exact info_of (by kernel_rfl) Try.underlying5
  · exact info_of (by kernel_rfl) Try.underlying9
  · exact info_of (by kernel_rfl) Try.underlying22
  · exact info_of (by kernel_rfl) Try.underlying23
  · exact info_of (by kernel_rfl) Try.underlying26
  · exact info_of (by kernel_rfl) Try.underlying59
  · exact info_of (by kernel_rfl) Try.underlying120
  · exact info_of (by kernel_rfl) Try.underlying123
  · exact info_of (by kernel_rfl) Try.underlying158
  · exact info_of (by kernel_rfl) Try.underlying196
  · exact info_of (by kernel_rfl) Try.underlying198
  · exact info_of (by kernel_rfl) Try.underlying262

noncomputable def fns : List (Nat × Func) := [(193, Try.f193), (101, Try.f101), (194, Try.f194), (145, Try.f145), (78, Try.f78), (79, Try.f79), (13, Try.f13), (61, Try.f61), (14, Try.f14), (175, Try.f175), (80, Try.f80), (84, Try.f84), (82, Try.f82), (81, Try.f81), (252, Try.f252), (183, Try.f183), (88, Try.f88), (83, Try.f83), (15, Try.f15), (16, Try.f16), (86, Try.f86), (182, Try.f182), (87, Try.f87), (17, Try.f17), (18, Try.f18), (19, Try.f19), (209, Try.f209), (121, Try.f121), (184, Try.f184), (89, Try.f89), (20, Try.f20), (3, Try.f3)]

theorem fns_ok : ∀ p ∈ fns, Try.prog.funcs[p.1]? = some p.2 ∧ (p.2.name == "runtime.NumGoroutine") = false ∧ drawsF [3, 15, 16, 17, 18, 19, 20, 61, 81, 82, 83, 84, 85, 86, 87, 88, 89, 182, 252, 1000022, 5000022, 2000071, 2000073, 2000080, 2000083, 2000108, 2000155, 2000198, 2000205] [13, 14, 183] p.2 = true := by
  intro p hp
  simp only [fns, List.mem_cons, List.not_mem_nil, or_false] at hp
  rcases hp with rfl | rfl | rfl | rfl | rfl | rfl | rfl | rfl | rfl | rfl | rfl | rfl | rfl | rfl | rfl | rfl | rfl | rfl | rfl | rfl | rfl | rfl | rfl | rfl | rfl | rfl | rfl | rfl | rfl | rfl | rfl | rfl
  · exact ⟨Try.func193, by kernel_rfl, by kernel_rfl⟩
  · exact ⟨Try.func101, by kernel_rfl, by kernel_rfl⟩
  · exact ⟨Try.func194, by kernel_rfl, by kernel_rfl⟩
  · exact ⟨Try.func145, by kernel_rfl, by kernel_rfl⟩
  · exact ⟨Try.func78, by kernel_rfl, by kernel_rfl⟩
  · exact ⟨Try.func79, by kernel_rfl, by kernel_rfl⟩
  · exact ⟨Try.func13, by kernel_rfl, by kernel_rfl⟩
  · exact ⟨Try.func61, by kernel_rfl, by kernel_rfl⟩
  · exact ⟨Try.func14, by kernel_rfl, by kernel_rfl⟩
  · exact ⟨Try.func175, by kernel_rfl, by kernel_rfl⟩
  · exact ⟨Try.func80, by kernel_rfl, by kernel_rfl⟩
  · exact ⟨Try.func84, by kernel_rfl, by kernel_rfl⟩
  · exact ⟨Try.func82, by kernel_rfl, by kernel_rfl⟩
  · exact ⟨Try.func81, by kernel_rfl, by kernel_rfl⟩
  · exact ⟨Try.func252, by kernel_rfl, by kernel_rfl⟩
  · exact ⟨Try.func183, by kernel_rfl, by kernel_rfl⟩
  · exact ⟨Try.func88, by kernel_rfl, by kernel_rfl⟩
  · exact ⟨Try.func83, by kernel_rfl, by kernel_rfl⟩
  · exact ⟨Try.func15, by kernel_rfl, by kernel_rfl⟩
  · exact ⟨Try.func16, by kernel_rfl, by kernel_rfl⟩
  · exact ⟨Try.func86, by kernel_rfl, by kernel_rfl⟩
  · exact ⟨Try.func182, by kernel_rfl, by kernel_rfl⟩
  · exact ⟨Try.func87, by kernel_rfl, by kernel_rfl⟩
  · exact ⟨Try.func17, by kernel_rfl, by kernel_rfl⟩
  · exact ⟨Try.func18, by kernel_rfl, by kernel_rfl⟩
  · exact ⟨Try.func19, by kernel_rfl, by kernel_rfl⟩
  · exact ⟨Try.func209, by kernel_rfl, by kernel_rfl⟩
  · exact ⟨Try.func121, by kernel_rfl, by kernel_rfl⟩
  · exact ⟨Try.func184, by kernel_rfl, by kernel_rfl⟩
  · exact ⟨Try.func89, by kernel_rfl, by kernel_rfl⟩
  · exact ⟨Try.func20, by kernel_rfl, by kernel_rfl⟩
  · exact ⟨Try.func3, by kernel_rfl, by kernel_rfl⟩

def lays105_ren : Go.Shelf.Ren := ⟨fun | 105 => 85 | 212 => 176 | 99 => 177 | 165 => 178 | 166 => 179 | 170 => 180 | 169 => 181 | 263 => 247 | 264 => 248 | 206 => 249 | 240 => 250 | 241 => 251 | 276 => 285 | 277 => 286 | n => n, fun | 9 => 9 | 3 => 3 | 4 => 4 | 20 => 20 | 0 => 0 | 46 => 200 | 109 => 201 | 5 => 5 | 72 => 205 | 76 => 209 | 51 => 262 | 146 => 263 | 53 => 196 | 148 => 265 | 70 => 203 | 37 => 22 | 75 => 208 | 127 => 267 | 164 => 296 | 80 => 212 | n => n, fun | n => n⟩
theorem lays105 : Go.Proofs.Lays.n105 Try.prog lays105_ren := {
  mixed := by kernel_rfl
  f99 := Try.func177.trans (congrArg some (by kernel_rfl))
  f105 := Try.func85.trans (congrArg some (by kernel_rfl))
  f165 := Try.func178.trans (congrArg some (by kernel_rfl))
  f166 := Try.func179.trans (congrArg some (by kernel_rfl))
  f169 := Try.func181.trans (congrArg some (by kernel_rfl))
  f170 := Try.func180.trans (congrArg some (by kernel_rfl))
  f206 := Try.func249.trans (congrArg some (by kernel_rfl))
  f212 := Try.func176.trans (congrArg some (by kernel_rfl))
  f240 := Try.func250.trans (congrArg some (by kernel_rfl))
  f241 := Try.func251.trans (congrArg some (by kernel_rfl))
  f263 := Try.func247.trans (congrArg some (by kernel_rfl))
  f264 := Try.func248.trans (congrArg some (by kernel_rfl))
  f276 := Try.func285.trans (congrArg some (by kernel_rfl))
  f277 := Try.func286.trans (congrArg some (by kernel_rfl))
  t0 := Try.underlying0
  a0 := Try.isAgg0
  z0 := Try.sizeOf0
  v0 := Try.zeroValue0
  t3 := Try.underlying3
  a3 := Try.isAgg3
  z3 := Try.sizeOf3
  v3 := Try.zeroValue3
  t4 := Try.underlying4
  a4 := Try.isAgg4
  z4 := Try.sizeOf4
  v4 := Try.zeroValue4
  t5 := Try.underlying5
  a5 := Try.isAgg5
  z5 := Try.sizeOf5
  v5 := Try.zeroValue5
  t9 := Try.underlying9
  a9 := Try.isAgg9
  z9 := Try.sizeOf9
  v9 := Try.zeroValue9
  t20 := Try.underlying20
  a20 := Try.isAgg20
  z20 := Try.sizeOf20
  v20 := Try.zeroValue20
  t37 := Try.underlying22
  a37 := Try.isAgg22
  z37 := Try.sizeOf22
  v37 := Try.zeroValue22
  t46 := Try.underlying200
  a46 := Try.isAgg200
  z46 := Try.sizeOf200
  v46 := Try.zeroValue200
  t51 := Try.underlying262
  a51 := Try.isAgg262
  z51 := Try.sizeOf262
  v51 := Try.zeroValue262
  t53 := Try.underlying196
  a53 := Try.isAgg196
  z53 := Try.sizeOf196
  v53 := Try.zeroValue196
  t70 := Try.underlying203
  a70 := Try.isAgg203
  z70 := Try.sizeOf203
  v70 := Try.zeroValue203
  t72 := Try.underlying205
  a72 := Try.isAgg205
  z72 := Try.sizeOf205
  v72 := Try.zeroValue205
  t75 := Try.underlying208
  a75 := Try.isAgg208
  z75 := Try.sizeOf208
  v75 := Try.zeroValue208
  t76 := Try.underlying209
  a76 := Try.isAgg209
  z76 := Try.sizeOf209
  v76 := Try.zeroValue209
  t109 := Try.underlying201
  a109 := Try.isAgg201
  z109 := Try.sizeOf201
  v109 := Try.zeroValue201
  t127 := Try.underlying267
  a127 := Try.isAgg267
  z127 := Try.sizeOf267
  v127 := Try.zeroValue267
  t146 := Try.underlying263
  a146 := Try.isAgg263
  z146 := Try.sizeOf263
  v146 := Try.zeroValue263
  t148 := Try.underlying265
  a148 := Try.isAgg265
  z148 := Try.sizeOf265
  v148 := Try.zeroValue265
  t164 := Try.underlying296
  a164 := Try.isAgg296
  z164 := Try.sizeOf296
  v164 := Try.zeroValue296 }

theorem extra105 : Builder.Extra Try.prog lays105_ren := {
  sizeBuilder := by kernel_rfl
  liesBuilder := by kernel_rfl
  t5 := Try.underlying5
  a5 := Try.isAgg5
  z5 := Try.sizeOf5
  v5 := Try.zeroValue5
  infoByte := by kernel_rfl
  cellsByte := by kernel_rfl
  sizeByte := by kernel_rfl
  neB5 := by decide }

noncomputable def ext : List (Nat × (List V → Fo → Option (V × Fo))) := [(85, extRepeat)]

theorem ext_ok : ∀ p ∈ ext, ExtOK Try.prog p.1 p.2 := by
  intro p hp
  simp only [ext, List.mem_cons, List.not_mem_nil, or_false] at hp
  rcases hp with rfl
  · exact ext_repeat (ρ := lays105_ren) rfl lays105 extra105 ⟨Try.f85, Try.func85, by kernel_rfl, by kernel_rfl⟩

noncomputable def eqs : List (Nat × List (Nat × Nat)) := []

theorem eqs_ok : ∀ p ∈ eqs, Try.prog.stoodInHeld p.1 = false ∧ Try.prog.eqGuardType Try.prog.depth p.1 = false ∧ (∃ fs, Try.prog.underlying p.1 = some (.struct fs) ∧ eqFits Try.prog fs.toList p.2 = true) := by
  intro p hp
  exact absurd hp List.not_mem_nil

noncomputable def E : Env := { tys := tys, fns := fns, own := [], keep := [(78, [(3, [0, 5, 6])]), (61, [(5, [0, 2, 7, 8])]), (175, [(2, [0, 1, 7, 8])]), (252, [(3, [0, 5, 11, 12])]), (183, [(4, [1, 5, 6, 7, 14])]), (88, [(3, [0, 5, 12, 13, 14]), (6, [0, 5, 12, 13, 14, 21, 22, 23])]), (87, [(3, [0, 3, 6, 7])]), (19, [(7, [1, 6, 26, 27])]), (209, [(2, [0, 1, 7, 8])]), (3, [(12, [3, 4, 5, 7, 9]), (22, [3, 4, 5, 7, 12, 14]), (27, [3, 4, 5, 7, 12, 15])])], handN := [80, 121, 175, 209], scal := [3, 15, 16, 17, 18, 19, 20, 61, 81, 82, 83, 84, 85, 86, 87, 88, 89, 182, 252, 1000022, 5000022, 2000071, 2000073, 2000080, 2000083, 2000108, 2000155, 2000198, 2000205], pur := [13, 14, 183], takeN := [], ext := ext, eqs := eqs }

theorem ok : EnvOK E Try.prog := ⟨look_all tys_ok, look_all fns_ok, by kernel_rfl, look_all (l := tys) (Q := fun _ (i : TI) => i.zero.cells.size = i.size) (by
  intro p hp
  simp only [tys, List.mem_cons, List.not_mem_nil, or_false] at hp
  rcases hp with rfl | rfl | rfl | rfl | rfl | rfl | rfl | rfl | rfl | rfl | rfl | rfl | rfl | rfl | rfl <;> rfl), look_all ext_ok, look_all (l := eqs) (Q := fun t l => Try.prog.stoodInHeld t = false ∧ Try.prog.eqGuardType Try.prog.depth t = false ∧ (∃ fs, Try.prog.underlying t = some (.struct fs) ∧ eqFits Try.prog fs.toList l = true)) eqs_ok⟩

end Go.Proofs.Ytdcgngeepbbikaa.T01

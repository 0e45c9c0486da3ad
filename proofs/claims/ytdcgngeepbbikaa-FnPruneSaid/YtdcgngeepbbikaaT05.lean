/- The engine's tables for laws.FnPrune, and that they are the program's own; conditions: none. -/

import Derived.Test.YtdcgngeepbbikaaEsi
import Derived.Test.YtdcgngeepbbikaaChecked
import Derived.KernelRfl
import Derived.Lib.Strings
import Derived.Lib.Slices
import Derived.Lib.Walk
import Derived.Lib.Bytealg
import Derived.Test.YtdcgngeepbbikaaEso
namespace Go.Proofs.Ytdcgngeepbbikaa.T05
open Go.Proofs.YtdcgngeepbbikaaE

noncomputable def tys : List (Nat × TI) := [(2, ⟨(Go.TypeDesc.int Go.IntKind.i64), 1, 8, (.int .i64 0)⟩),
  (3, ⟨(Go.TypeDesc.int Go.IntKind.i64), 1, 8, (.int .i64 0)⟩),
  (4, ⟨Go.TypeDesc.bool, 1, 1, (.bool false)⟩),
  (5, ⟨(Go.TypeDesc.int Go.IntKind.u8), 1, 1, (.int .u8 0)⟩),
  (9, ⟨Go.TypeDesc.string, 1, 16, (.string ⟨#[]⟩)⟩),
  (22, ⟨(Go.TypeDesc.slice 5), 1, 24, (.slice none 0 0)⟩),
  (23, ⟨(Go.TypeDesc.slice 9), 1, 24, (.slice none 0 0)⟩),
  (46, ⟨(Go.TypeDesc.struct #[{ name := "Key", type := 9, offset := 0, embedded := Bool.false, tag := "", pkgPath := "", byteOffset := 0 }, { name := "Seq", type := 2, offset := 1, embedded := Bool.false, tag := "", pkgPath := "", byteOffset := 16 }, { name := "Kind", type := 2, offset := 2, embedded := Bool.false, tag := "", pkgPath := "", byteOffset := 24 }, { name := "Value", type := 9, offset := 3, embedded := Bool.false, tag := "", pkgPath := "", byteOffset := 32 }, { name := "End", type := 9, offset := 4, embedded := Bool.false, tag := "", pkgPath := "", byteOffset := 48 }]), 5, 64, (.agg #[(.string ⟨#[]⟩), (.int .i64 0), (.int .i64 0), (.string ⟨#[]⟩), (.string ⟨#[]⟩)])⟩),
  (49, ⟨(Go.TypeDesc.slice 46), 1, 24, (.slice none 0 0)⟩),
  (57, ⟨(Go.TypeDesc.slice 155), 1, 24, (.slice none 0 0)⟩),
  (59, ⟨(Go.TypeDesc.slice 2), 1, 24, (.slice none 0 0)⟩),
  (61, ⟨(Go.TypeDesc.tuple #[57, 2]), 1, 0, (.tuple #[(.slice none 0 0), (.int .i64 0)])⟩),
  (120, ⟨(Go.TypeDesc.pointer 198), 1, 8, (.pointer none)⟩),
  (150, ⟨(Go.TypeDesc.map 2 4), 1, 8, (.map none)⟩),
  (155, ⟨(Go.TypeDesc.struct #[{ name := "Low", type := 9, offset := 0, embedded := Bool.false, tag := "", pkgPath := "", byteOffset := 0 }, { name := "End", type := 9, offset := 1, embedded := Bool.false, tag := "", pkgPath := "", byteOffset := 16 }, { name := "Seqs", type := 59, offset := 2, embedded := Bool.false, tag := "", pkgPath := "", byteOffset := 32 }]), 3, 56, (.agg #[(.string ⟨#[]⟩), (.string ⟨#[]⟩), (.slice none 0 0)])⟩),
  (158, ⟨(Go.TypeDesc.func #[2] #[4] Bool.false), 1, 8, .nilFunc⟩),
  (196, ⟨(Go.TypeDesc.int Go.IntKind.u64), 1, 8, (.int .u64 0)⟩),
  (198, ⟨(Go.TypeDesc.struct #[{ name := "code", type := 22, offset := 0, embedded := Bool.false, tag := "", pkgPath := "loop.example/g00905/spec", byteOffset := 0 }, { name := "at", type := 3, offset := 1, embedded := Bool.false, tag := "", pkgPath := "loop.example/g00905/spec", byteOffset := 24 }, { name := "seed", type := 196, offset := 2, embedded := Bool.false, tag := "", pkgPath := "loop.example/g00905/spec", byteOffset := 32 }]), 3, 40, (.agg #[(.slice none 0 0), (.int .i64 0), (.int .u64 0)])⟩),
  (271, ⟨(Go.TypeDesc.slice 3), 1, 24, (.slice none 0 0)⟩)]

theorem tys_ok : ∀ p ∈ tys, ∃ ti, Try.prog.info? p.1 = some ti ∧ Try.prog.underlying p.1 = some p.2.desc ∧ ti.size = p.2.size ∧ ti.bytes = p.2.bytes ∧ ti.zero = some p.2.zero := by
  intro p hp
  simp only [tys, List.mem_cons, List.not_mem_nil, or_false] at hp
  rcases hp with rfl | rfl | rfl | rfl | rfl | rfl | rfl | rfl | rfl | rfl | rfl | rfl | rfl | rfl | rfl | rfl | rfl | rfl | rfl
  · exact info_of (by kernel_rfl) Try.underlying2
  · exact info_of (by kernel_rfl) Try.underlying3
  · exact info_of (by kernel_rfl) Try.underlying4
  · exact info_of (by kernel_rfl) Try.underlying5
  · exact info_of (by kernel_rfl) Try.underlying9
  · exact info_of (by kernel_rfl) Try.underlying22
  · exact info_of (by kernel_rfl) Try.underlying23
  · exact info_of (by kernel_rfl) Try.underlying46
  · exact info_of (by kernel_rfl) Try.underlying49
  · exact info_of (by kernel_rfl) Try.underlying57
  · exact info_of (by kernel_rfl) Try.underlying59
  · exact info_of (by kernel_rfl) Try.underlying61
  · exact info_of (by kernel_rfl) Try.underlying120
  · exact info_of (by kernel_rfl) Try.underlying150
  · exact info_of (by kernel_rfl) Try.underlying155
  · exact info_of (by kernel_rfl) Try.underlying158
  · exact info_of (by kernel_rfl) Try.underlying196
  · exact info_of (by kernel_rfl) Try.underlying198
  · exact info_of (by kernel_rfl) Try.underlying271

noncomputable def fns : List (Nat × Func) := [(61, Try.f61), (14, Try.f14), (195, Try.f195), (257, Try.f257), (197, Try.f197), (103, Try.f103), (30, Try.f30), (84, Try.f84), (82, Try.f82), (108, Try.f108), (38, Try.f38), (212, Try.f212), (214, Try.f214), (215, Try.f215), (126, Try.f126), (205, Try.f205), (116, Try.f116), (39, Try.f39), (79, Try.f79), (193, Try.f193), (101, Try.f101), (194, Try.f194), (145, Try.f145), (161, Try.f161), (102, Try.f102), (199, Try.f199), (112, Try.f112), (206, Try.f206), (117, Try.f117), (40, Try.f40), (118, Try.f118), (202, Try.f202), (119, Try.f119), (41, Try.f41), (209, Try.f209), (121, Try.f121), (268, Try.f268), (208, Try.f208), (210, Try.f210), (124, Try.f124), (43, Try.f43), (207, Try.f207), (120, Try.f120), (123, Try.f123), (122, Try.f122), (42, Try.f42), (44, Try.f44), (125, Try.f125), (45, Try.f45), (7, Try.f7)]

theorem fns_ok : ∀ p ∈ fns, Try.prog.funcs[p.1]? = some p.2 ∧ (p.2.name == "runtime.NumGoroutine") = false ∧ drawsF [7, 30, 38, 43, 45, 61, 82, 84, 103, 108, 112, 119, 120, 123, 124, 125, 195, 196, 197, 202, 205, 207, 208, 210, 257, 2000071, 2000073, 2000080, 2000083, 2000108, 2000155, 2000198, 2000205, 3000049] [14, 39, 40, 41, 42, 44, 116, 126, 206] p.2 = true := by
  intro p hp
  simp only [fns, List.mem_cons, List.not_mem_nil, or_false] at hp
  rcases hp with rfl | rfl | rfl | rfl | rfl | rfl | rfl | rfl | rfl | rfl | rfl | rfl | rfl | rfl | rfl | rfl | rfl | rfl | rfl | rfl | rfl | rfl | rfl | rfl | rfl | rfl | rfl | rfl | rfl | rfl | rfl | rfl | rfl | rfl | rfl | rfl | rfl | rfl | rfl | rfl | rfl | rfl | rfl | rfl | rfl | rfl | rfl | rfl | rfl | rfl
  · exact ⟨Try.func61, by kernel_rfl, by kernel_rfl⟩
  · exact ⟨Try.func14, by kernel_rfl, by kernel_rfl⟩
  · exact ⟨Try.func195, by kernel_rfl, by kernel_rfl⟩
  · exact ⟨Try.func257, by kernel_rfl, by kernel_rfl⟩
  · exact ⟨Try.func197, by kernel_rfl, by kernel_rfl⟩
  · exact ⟨Try.func103, by kernel_rfl, by kernel_rfl⟩
  · exact ⟨Try.func30, by kernel_rfl, by kernel_rfl⟩
  · exact ⟨Try.func84, by kernel_rfl, by kernel_rfl⟩
  · exact ⟨Try.func82, by kernel_rfl, by kernel_rfl⟩
  · exact ⟨Try.func108, by kernel_rfl, by kernel_rfl⟩
  · exact ⟨Try.func38, by kernel_rfl, by kernel_rfl⟩
  · exact ⟨Try.func212, by kernel_rfl, by kernel_rfl⟩
  · exact ⟨Try.func214, by kernel_rfl, by kernel_rfl⟩
  · exact ⟨Try.func215, by kernel_rfl, by kernel_rfl⟩
  · exact ⟨Try.func126, by kernel_rfl, by kernel_rfl⟩
  · exact ⟨Try.func205, by kernel_rfl, by kernel_rfl⟩
  · exact ⟨Try.func116, by kernel_rfl, by kernel_rfl⟩
  · exact ⟨Try.func39, by kernel_rfl, by kernel_rfl⟩
  · exact ⟨Try.func79, by kernel_rfl, by kernel_rfl⟩
  · exact ⟨Try.func193, by kernel_rfl, by kernel_rfl⟩
  · exact ⟨Try.func101, by kernel_rfl, by kernel_rfl⟩
  · exact ⟨Try.func194, by kernel_rfl, by kernel_rfl⟩
  · exact ⟨Try.func145, by kernel_rfl, by kernel_rfl⟩
  · exact ⟨Try.func161, by kernel_rfl, by kernel_rfl⟩
  · exact ⟨Try.func102, by kernel_rfl, by kernel_rfl⟩
  · exact ⟨Try.func199, by kernel_rfl, by kernel_rfl⟩
  · exact ⟨Try.func112, by kernel_rfl, by kernel_rfl⟩
  · exact ⟨Try.func206, by kernel_rfl, by kernel_rfl⟩
  · exact ⟨Try.func117, by kernel_rfl, by kernel_rfl⟩
  · exact ⟨Try.func40, by kernel_rfl, by kernel_rfl⟩
  · exact ⟨Try.func118, by kernel_rfl, by kernel_rfl⟩
  · exact ⟨Try.func202, by kernel_rfl, by kernel_rfl⟩
  · exact ⟨Try.func119, by kernel_rfl, by kernel_rfl⟩
  · exact ⟨Try.func41, by kernel_rfl, by kernel_rfl⟩
  · exact ⟨Try.func209, by kernel_rfl, by kernel_rfl⟩
  · exact ⟨Try.func121, by kernel_rfl, by kernel_rfl⟩
  · exact ⟨Try.func268, by kernel_rfl, by kernel_rfl⟩
  · exact ⟨Try.func208, by kernel_rfl, by kernel_rfl⟩
  · exact ⟨Try.func210, by kernel_rfl, by kernel_rfl⟩
  · exact ⟨Try.func124, by kernel_rfl, by kernel_rfl⟩
  · exact ⟨Try.func43, by kernel_rfl, by kernel_rfl⟩
  · exact ⟨Try.func207, by kernel_rfl, by kernel_rfl⟩
  · exact ⟨Try.func120, by kernel_rfl, by kernel_rfl⟩
  · exact ⟨Try.func123, by kernel_rfl, by kernel_rfl⟩
  · exact ⟨Try.func122, by kernel_rfl, by kernel_rfl⟩
  · exact ⟨Try.func42, by kernel_rfl, by kernel_rfl⟩
  · exact ⟨Try.func44, by kernel_rfl, by kernel_rfl⟩
  · exact ⟨Try.func125, by kernel_rfl, by kernel_rfl⟩
  · exact ⟨Try.func45, by kernel_rfl, by kernel_rfl⟩
  · exact ⟨Try.func7, by kernel_rfl, by kernel_rfl⟩

set_option maxHeartbeats 1000000 in
set_option maxRecDepth 100000 in
theorem bytealg_CompareString (a b : ByteArray) (w : World) :
    Calls Try.prog 256 #[.string a, .string b] w fun e w' => e = .returned (.int .i64 (Lib.compareBytes a.data.toList b.data.toList)) ∧ w' = w := by
  go_enter Try.func256, Try.ntmps256
  go_wp2
  rw [run_callFunc_extern Try.func293 (by kernel_rfl) (by kernel_rfl) (by kernel_rfl) (e := Extern.BytealgCompare.compare) (by kernel_rfl), Lib.run_compareString]
  simp only [Result.andThen]
  rw [Oper.upon_value]
  go_wp2
  go_ret
  exact ⟨rfl, rfl⟩

#print axioms bytealg_CompareString

set_option maxHeartbeats 1000000 in
theorem strings_Compare (a b : ByteArray) (w : World) :
    Calls Try.prog 196 #[.string a, .string b] w fun e w' => e = .returned (.int .i64 (Lib.compareBytes a.data.toList b.data.toList)) ∧ w' = w := by
  go_enter Try.func196, Try.ntmps196
  go_wp2_with (go_at_call 256; refine (bytealg_CompareString _ _ _).mono ?_; rintro e w' ⟨rfl, rfl⟩)
  go_ret
  exact ⟨rfl, rfl⟩

def laysSort211_ren : Go.Shelf.Ren := ⟨fun | 54 => 211 | 64 => 201 | 65 => 269 | 78 => 266 | 79 => 267 | 80 => 299 | 81 => 300 | 82 => 301 | 83 => 302 | 84 => 303 | 85 => 304 | 61 => 305 | 86 => 306 | 87 => 307 | 93 => 327 | 89 => 295 | 90 => 296 | 94 => 328 | 95 => 329 | 69 => 330 | 97 => 338 | n => n, fun | 25 => 23 | 26 => 9 | 3 => 3 | 51 => 200 | 0 => 0 | 67 => 262 | 69 => 196 | 4 => 4 | 61 => 274 | 60 => 273 | 44 => 278 | 5 => 5 | 9 => 9 | 75 => 304 | 79 => 308 | 83 => 325 | 84 => 326 | n => n, fun | n => n⟩
theorem laysSort211 : Go.Proofs.SlLaysN.n54 Try.prog laysSort211_ren := {
  mixed := by kernel_rfl
  f54 := ⟨Try.f211.name, by decide, Try.func211.trans (congrArg some (by kernel_rfl))⟩
  f61 := ⟨Try.f305.name, by decide, Try.func305.trans (congrArg some (by kernel_rfl))⟩
  f64 := Try.func201.trans (congrArg some (by kernel_rfl))
  f65 := ⟨Try.f269.name, by decide, Try.func269.trans (congrArg some (by kernel_rfl))⟩
  f69 := ⟨Try.f330.name, by decide, Try.func330.trans (congrArg some (by kernel_rfl))⟩
  f78 := Try.func266.trans (congrArg some (by kernel_rfl))
  f79 := Try.func267.trans (congrArg some (by kernel_rfl))
  f80 := ⟨Try.f299.name, by decide, Try.func299.trans (congrArg some (by kernel_rfl))⟩
  f81 := ⟨Try.f300.name, by decide, Try.func300.trans (congrArg some (by kernel_rfl))⟩
  f82 := ⟨Try.f301.name, by decide, Try.func301.trans (congrArg some (by kernel_rfl))⟩
  f83 := ⟨Try.f302.name, by decide, Try.func302.trans (congrArg some (by kernel_rfl))⟩
  f84 := ⟨Try.f303.name, by decide, Try.func303.trans (congrArg some (by kernel_rfl))⟩
  f85 := ⟨Try.f304.name, by decide, Try.func304.trans (congrArg some (by kernel_rfl))⟩
  f86 := ⟨Try.f306.name, by decide, Try.func306.trans (congrArg some (by kernel_rfl))⟩
  f87 := ⟨Try.f307.name, by decide, Try.func307.trans (congrArg some (by kernel_rfl))⟩
  f89 := Try.func295.trans (congrArg some (by kernel_rfl))
  f90 := Try.func296.trans (congrArg some (by kernel_rfl))
  f93 := ⟨Try.f327.name, by decide, Try.func327.trans (congrArg some (by kernel_rfl))⟩
  f94 := ⟨Try.f328.name, by decide, Try.func328.trans (congrArg some (by kernel_rfl))⟩
  f95 := ⟨Try.f329.name, by decide, Try.func329.trans (congrArg some (by kernel_rfl))⟩
  f97 := ⟨Try.f338.name, by decide, Try.func338.trans (congrArg some (by kernel_rfl))⟩
  t0 := Try.underlying0
  a0 := Try.isAgg0
  z0 := Try.sizeOf0
  v0 := Try.zeroValue0
  t3 := Try.underlying3
  a3 := Try.isAgg3
  z3 := Try.sizeOf3
  v3 := Try.zeroValue3
  t4 := Try.underlying4
  a4 := Try.isAgg4
  z4 := Try.sizeOf4
  v4 := Try.zeroValue4
  t5 := Try.underlying5
  a5 := Try.isAgg5
  z5 := Try.sizeOf5
  v5 := Try.zeroValue5
  t9 := Try.underlying9
  a9 := Try.isAgg9
  z9 := Try.sizeOf9
  v9 := Try.zeroValue9
  t25 := Try.underlying23
  a25 := Try.isAgg23
  z25 := Try.sizeOf23
  v25 := Try.zeroValue23
  t26 := Try.underlying9
  a26 := Try.isAgg9
  z26 := Try.sizeOf9
  v26 := Try.zeroValue9
  t44 := Try.underlying278
  a44 := Try.isAgg278
  z44 := Try.sizeOf278
  v44 := Try.zeroValue278
  t51 := Try.underlying200
  a51 := Try.isAgg200
  z51 := Try.sizeOf200
  v51 := Try.zeroValue200
  t60 := Try.underlying273
  a60 := Try.isAgg273
  z60 := Try.sizeOf273
  v60 := Try.zeroValue273
  t61 := Try.underlying274
  a61 := Try.isAgg274
  z61 := Try.sizeOf274
  v61 := Try.zeroValue274
  t67 := Try.underlying262
  a67 := Try.isAgg262
  z67 := Try.sizeOf262
  v67 := Try.zeroValue262
  t69 := Try.underlying196
  a69 := Try.isAgg196
  z69 := Try.sizeOf196
  v69 := Try.zeroValue196
  t75 := Try.underlying304
  a75 := Try.isAgg304
  z75 := Try.sizeOf304
  v75 := Try.zeroValue304
  t79 := Try.underlying308
  a79 := Try.isAgg308
  z79 := Try.sizeOf308
  v79 := Try.zeroValue308
  t83 := Try.underlying325
  a83 := Try.isAgg325
  z83 := Try.sizeOf325
  v83 := Try.zeroValue325
  t84 := Try.underlying326
  a84 := Try.isAgg326
  z84 := Try.sizeOf326
  v84 := Try.zeroValue326 }

def laysSort213_ren : Go.Shelf.Ren := ⟨fun | 53 => 213 | 64 => 201 | 63 => 270 | 78 => 266 | 79 => 267 | 70 => 308 | 71 => 309 | 72 => 310 | 73 => 311 | 74 => 312 | 75 => 313 | 59 => 314 | 76 => 315 | 77 => 316 | 88 => 331 | 89 => 295 | 90 => 296 | 91 => 332 | 92 => 333 | 68 => 257 | 96 => 339 | n => n, fun | 22 => 59 | 23 => 2 | 3 => 3 | 51 => 200 | 0 => 0 | 67 => 262 | 69 => 196 | 4 => 4 | 61 => 274 | 60 => 273 | 44 => 278 | 5 => 5 | 9 => 9 | 75 => 304 | 79 => 308 | 83 => 325 | 84 => 326 | n => n, fun | n => n⟩
theorem laysSort213 : Go.Proofs.SlLaysN.n53 Try.prog laysSort213_ren := {
  mixed := by kernel_rfl
  f53 := ⟨Try.f213.name, by decide, Try.func213.trans (congrArg some (by kernel_rfl))⟩
  f59 := ⟨Try.f314.name, by decide, Try.func314.trans (congrArg some (by kernel_rfl))⟩
  f63 := ⟨Try.f270.name, by decide, Try.func270.trans (congrArg some (by kernel_rfl))⟩
  f64 := Try.func201.trans (congrArg some (by kernel_rfl))
  f68 := ⟨Try.f257.name, by decide, Try.func257.trans (congrArg some (by kernel_rfl))⟩
  f70 := ⟨Try.f308.name, by decide, Try.func308.trans (congrArg some (by kernel_rfl))⟩
  f71 := ⟨Try.f309.name, by decide, Try.func309.trans (congrArg some (by kernel_rfl))⟩
  f72 := ⟨Try.f310.name, by decide, Try.func310.trans (congrArg some (by kernel_rfl))⟩
  f73 := ⟨Try.f311.name, by decide, Try.func311.trans (congrArg some (by kernel_rfl))⟩
  f74 := ⟨Try.f312.name, by decide, Try.func312.trans (congrArg some (by kernel_rfl))⟩
  f75 := ⟨Try.f313.name, by decide, Try.func313.trans (congrArg some (by kernel_rfl))⟩
  f76 := ⟨Try.f315.name, by decide, Try.func315.trans (congrArg some (by kernel_rfl))⟩
  f77 := ⟨Try.f316.name, by decide, Try.func316.trans (congrArg some (by kernel_rfl))⟩
  f78 := Try.func266.trans (congrArg some (by kernel_rfl))
  f79 := Try.func267.trans (congrArg some (by kernel_rfl))
  f88 := ⟨Try.f331.name, by decide, Try.func331.trans (congrArg some (by kernel_rfl))⟩
  f89 := Try.func295.trans (congrArg some (by kernel_rfl))
  f90 := Try.func296.trans (congrArg some (by kernel_rfl))
  f91 := ⟨Try.f332.name, by decide, Try.func332.trans (congrArg some (by kernel_rfl))⟩
  f92 := ⟨Try.f333.name, by decide, Try.func333.trans (congrArg some (by kernel_rfl))⟩
  f96 := ⟨Try.f339.name, by decide, Try.func339.trans (congrArg some (by kernel_rfl))⟩
  t0 := Try.underlying0
  a0 := Try.isAgg0
  z0 := Try.sizeOf0
  v0 := Try.zeroValue0
  t3 := Try.underlying3
  a3 := Try.isAgg3
  z3 := Try.sizeOf3
  v3 := Try.zeroValue3
  t4 := Try.underlying4
  a4 := Try.isAgg4
  z4 := Try.sizeOf4
  v4 := Try.zeroValue4
  t5 := Try.underlying5
  a5 := Try.isAgg5
  z5 := Try.sizeOf5
  v5 := Try.zeroValue5
  t9 := Try.underlying9
  a9 := Try.isAgg9
  z9 := Try.sizeOf9
  v9 := Try.zeroValue9
  t22 := Try.underlying59
  a22 := Try.isAgg59
  z22 := Try.sizeOf59
  v22 := Try.zeroValue59
  t23 := Try.underlying2
  a23 := Try.isAgg2
  z23 := Try.sizeOf2
  v23 := Try.zeroValue2
  t44 := Try.underlying278
  a44 := Try.isAgg278
  z44 := Try.sizeOf278
  v44 := Try.zeroValue278
  t51 := Try.underlying200
  a51 := Try.isAgg200
  z51 := Try.sizeOf200
  v51 := Try.zeroValue200
  t60 := Try.underlying273
  a60 := Try.isAgg273
  z60 := Try.sizeOf273
  v60 := Try.zeroValue273
  t61 := Try.underlying274
  a61 := Try.isAgg274
  z61 := Try.sizeOf274
  v61 := Try.zeroValue274
  t67 := Try.underlying262
  a67 := Try.isAgg262
  z67 := Try.sizeOf262
  v67 := Try.zeroValue262
  t69 := Try.underlying196
  a69 := Try.isAgg196
  z69 := Try.sizeOf196
  v69 := Try.zeroValue196
  t75 := Try.underlying304
  a75 := Try.isAgg304
  z75 := Try.sizeOf304
  v75 := Try.zeroValue304
  t79 := Try.underlying308
  a79 := Try.isAgg308
  z79 := Try.sizeOf308
  v79 := Try.zeroValue308
  t83 := Try.underlying325
  a83 := Try.isAgg325
  z83 := Try.sizeOf325
  v83 := Try.zeroValue325
  t84 := Try.underlying326
  a84 := Try.isAgg326
  z84 := Try.sizeOf326
  v84 := Try.zeroValue326 }

noncomputable def g196 : List V → Option V := fun args => match args with
  | [.d (.lit (.string a)), .d (.lit (.string b))] => some (.d (.lit (.int .i64 (Lib.compareBytes a.data.toList b.data.toList))))
  | _ => none

noncomputable def ext : List (Nat × (List V → Fo → Option (V × Fo))) := [(196, fun args F => match g196 args with | some v => some (v, F) | none => none),
  (211, extSortS),
  (213, extSortI)]

theorem ext_ok : ∀ p ∈ ext, ExtOK Try.prog p.1 p.2 := by
  intro p hp
  simp only [ext, List.mem_cons, List.not_mem_nil, or_false] at hp
  rcases hp with rfl | rfl | rfl
  · exact ext_scal ⟨Try.f196, Try.func196, by kernel_rfl, by kernel_rfl⟩ (fun args v h => by
      unfold g196 at h
      split at h
      · injection h with h
        subst h
        exact ⟨rfl, _, rfl, rfl, fun w => strings_Compare _ _ w⟩
      · simp at h)
  · exact ext_sortS (ρ := laysSort211_ren) rfl laysSort211 ⟨Try.f211, Try.func211, by kernel_rfl, by kernel_rfl⟩
  · exact ext_sortI (ρ := laysSort213_ren) rfl laysSort213 ⟨Try.f213, Try.func213, by kernel_rfl, by kernel_rfl⟩

noncomputable def eqs : List (Nat × List (Nat × Nat)) := [(46, [(0, 2), (1, 0), (2, 0), (3, 2), (4, 2)])]

theorem eqs_ok : ∀ p ∈ eqs, Try.prog.stoodInHeld p.1 = false ∧ Try.prog.eqGuardType Try.prog.depth p.1 = false ∧ (∃ fs, Try.prog.underlying p.1 = some (.struct fs) ∧ eqFits Try.prog fs.toList p.2 = true) := by
  intro p hp
  simp only [eqs, List.mem_cons, List.not_mem_nil, or_false] at hp
  rcases hp with rfl
  · exact ⟨by kernel_rfl, by kernel_rfl, _, Try.underlying46, by kernel_rfl⟩

noncomputable def E : Env := { tys := tys, fns := fns, own := [212, 214], keep := [(61, [(5, [0, 2, 7, 8])]), (195, [(3, [3, 6, 7, 8])]), (38, [(3, [0, 3, 7, 8, 9])]), (212, [(4, [0, 3]), (9, [0, 3, 4, 5])]), (214, [(4, [0, 3]), (9, [0, 3, 4, 5])]), (215, [(1, [0, 2, 3])]), (126, [(3, [0, 3, 11, 12, 13]), (11, [0, 3, 6, 7]), (15, [0, 3, 6, 7, 8, 45, 46, 47])]), (116, [(3, [3, 6, 7, 8])]), (206, [(2, [0, 3, 5])]), (117, [(4, [0, 3, 4, 5, 1003])]), (118, [(4, [0, 3, 4, 5])]), (119, [(2, [0, 3])]), (209, [(2, [0, 1, 7, 8])]), (210, [(2, [0, 3])]), (43, [(2, [0, 5, 6, 7])]), (207, [(2, [0, 3])]), (123, [(2, [1, 7, 8, 9])]), (42, [(5, [1, 6, 20, 21, 22]), (9, [1, 6, 8, 9, 20, 21, 22, 32, 33, 34])]), (44, [(5, [3, 11, 12, 13]), (8, [3, 5, 11, 12, 13, 18, 19, 20])]), (125, [(2, [1, 2, 9, 10, 11])]), (7, [(11, [3, 5, 7, 8, 9]), (14, [3, 5, 7, 8, 9, 10])])], handN := [121, 209, 211, 213, 215], scal := [7, 30, 38, 43, 45, 61, 82, 84, 103, 108, 112, 119, 120, 123, 124, 125, 195, 196, 197, 202, 205, 207, 208, 210, 257, 2000071, 2000073, 2000080, 2000083, 2000108, 2000155, 2000198, 2000205, 3000049], pur := [14, 39, 40, 41, 42, 44, 116, 126, 206], takeN := [212, 214], ext := ext, eqs := eqs }

theorem ok : EnvOK E Try.prog := ⟨look_all tys_ok, look_all fns_ok, by kernel_rfl, look_all (l := tys) (Q := fun _ (i : TI) => i.zero.cells.size = i.size) (by
  intro p hp
  simp only [tys, List.mem_cons, List.not_mem_nil, or_false] at hp
  rcases hp with rfl | rfl | rfl | rfl | rfl | rfl | rfl | rfl | rfl | rfl | rfl | rfl | rfl | rfl | rfl | rfl | rfl | rfl | rfl <;> rfl), look_all ext_ok, look_all (l := eqs) (Q := fun t l => Try.prog.stoodInHeld t = false ∧ Try.prog.eqGuardType Try.prog.depth t = false ∧ (∃ fs, Try.prog.underlying t = some (.struct fs) ∧ eqFits Try.prog fs.toList l = true)) eqs_ok⟩

end Go.Proofs.Ytdcgngeepbbikaa.T05

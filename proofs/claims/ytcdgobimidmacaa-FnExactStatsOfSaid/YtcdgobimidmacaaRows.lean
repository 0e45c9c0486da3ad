/-
  No cell of these rows narrows 'for every input' (looked for: loops, veiled, ifaces, maps, wideKeys, modest, calm, conditions, laid).
  DERIVED. THE GIVEN ROWS OF THIS SEAT. 12 by the template 'for every input the law returns true; each argument reads behind the call as it read before'; 0 by the template 'total and deterministic' (their statements: YtcdgobimidmacaaTotals.lean).
  GIVEN WITH THE SEED: the statements are not yours to turn. If you find one false, say at which input.
  Laid BY PROGRAM, IN A SANDBOX (cutbox-rows.mjs): the forced cells as the released guide's own fill.sh prints them over the translation eff732050bf6ee08… (all of the seat's roots in one cut). By AI agents, Wed Nov 11 2026. No macro, syntax, notation, axiom, sorry.
-/
import Derived.Test.YtcdgobimidmacaaChecked
import GoSem.Claim
import GoSem.ClaimJoined
import GoSem.ClaimMapViews
import Derived.JoinedTies
import Derived.KernelRfl
namespace Go.Proofs.Ytcdgobimidmacaa
/- THE CELL 'sum', in the pinned program and in every row, IS THE sha256 OF THE DUMP (.gsa) THAT YtcdgobimidmacaaProg.lean LOADS. Nothing in Lean hashes anything: it is a label: what it is worth is what the hold of that sum in a sandbox is worth. -/
noncomputable def Try.pinned : Pinned := { name := "ytcdgobimidmacaa", sum := "eff732050bf6ee0815852d5d8b30541f5b239f96486b32f2e6cdd3fe489306a4", checked := Try.checked }
namespace Rows
def none {H : Type} : Left H := { results := [], args := [] }

/-- 'laws.FnErasePasses': WHATEVER THE INPUT: true; the input reads as it did. -/
def fnErasePassesSpec : ChangeSpec := { name := "fnErasePasses", fn := fun _ => fun
  | [d] => { results := [.lit (.bool true)], args := [d] }
  | _ => none }
def fnErasePassesRow : OpenClaim := { program := "ytcdgobimidmacaa", sum := "eff732050bf6ee0815852d5d8b30541f5b239f96486b32f2e6cdd3fe489306a4", func := "loop.example/g00905/laws.FnErasePasses", spec := "fnErasePasses", unfollowed := true, recurses := true, apart := false }
def FnErasePassesSaid : Prop := fnErasePassesRow.holds Try.pinned (OpenSpec.ofChange fnErasePassesSpec)

/-- ITS FALSE NEIGHBOUR: 'it returns false'. Refute it at one input. -/
def fnErasePassesWrong : ChangeSpec := { name := "fnErasePasses", fn := fun _ => fun
  | [d] => { results := [.lit (.bool false)], args := [d] }
  | _ => none }
def FnErasePassesWrongFalsely : Prop := fnErasePassesRow.holds Try.pinned (OpenSpec.ofChange fnErasePassesWrong)

/-- 'laws.FnCleaning': WHATEVER THE INPUT: true; the input reads as it did. -/
def fnCleaningSpec : ChangeSpec := { name := "fnCleaning", fn := fun _ => fun
  | [d] => { results := [.lit (.bool true)], args := [d] }
  | _ => none }
def fnCleaningRow : OpenClaim := { program := "ytcdgobimidmacaa", sum := "eff732050bf6ee0815852d5d8b30541f5b239f96486b32f2e6cdd3fe489306a4", func := "loop.example/g00905/laws.FnCleaning", spec := "fnCleaning", unfollowed := true, recurses := true, apart := false }
def FnCleaningSaid : Prop := fnCleaningRow.holds Try.pinned (OpenSpec.ofChange fnCleaningSpec)

/-- ITS FALSE NEIGHBOUR: 'it returns false'. Refute it at one input. -/
def fnCleaningWrong : ChangeSpec := { name := "fnCleaning", fn := fun _ => fun
  | [d] => { results := [.lit (.bool false)], args := [d] }
  | _ => none }
def FnCleaningWrongFalsely : Prop := fnCleaningRow.holds Try.pinned (OpenSpec.ofChange fnCleaningWrong)

/-- 'laws.FnStreams': WHATEVER THE INPUT: true; the input reads as it did. -/
def fnStreamsSpec : ChangeSpec := { name := "fnStreams", fn := fun _ => fun
  | [d] => { results := [.lit (.bool true)], args := [d] }
  | _ => none }
def fnStreamsRow : OpenClaim := { program := "ytcdgobimidmacaa", sum := "eff732050bf6ee0815852d5d8b30541f5b239f96486b32f2e6cdd3fe489306a4", func := "loop.example/g00905/laws.FnStreams", spec := "fnStreams", unfollowed := true, recurses := true, apart := false }
def FnStreamsSaid : Prop := fnStreamsRow.holds Try.pinned (OpenSpec.ofChange fnStreamsSpec)

/-- ITS FALSE NEIGHBOUR: 'it returns false'. Refute it at one input. -/
def fnStreamsWrong : ChangeSpec := { name := "fnStreams", fn := fun _ => fun
  | [d] => { results := [.lit (.bool false)], args := [d] }
  | _ => none }
def FnStreamsWrongFalsely : Prop := fnStreamsRow.holds Try.pinned (OpenSpec.ofChange fnStreamsWrong)

/-- 'laws.FnFtlMap': WHATEVER THE INPUT: true; the input reads as it did. -/
def fnFtlMapSpec : ChangeSpec := { name := "fnFtlMap", fn := fun _ => fun
  | [d] => { results := [.lit (.bool true)], args := [d] }
  | _ => none }
def fnFtlMapRow : OpenClaim := { program := "ytcdgobimidmacaa", sum := "eff732050bf6ee0815852d5d8b30541f5b239f96486b32f2e6cdd3fe489306a4", func := "loop.example/g00905/laws.FnFtlMap", spec := "fnFtlMap", apart := false }
def FnFtlMapSaid : Prop := fnFtlMapRow.holds Try.pinned (OpenSpec.ofChange fnFtlMapSpec)

/-- ITS FALSE NEIGHBOUR: 'it returns false'. Refute it at one input. -/
def fnFtlMapWrong : ChangeSpec := { name := "fnFtlMap", fn := fun _ => fun
  | [d] => { results := [.lit (.bool false)], args := [d] }
  | _ => none }
def FnFtlMapWrongFalsely : Prop := fnFtlMapRow.holds Try.pinned (OpenSpec.ofChange fnFtlMapWrong)

/-- 'laws.FnExactStatsOf': WHATEVER THE INPUT: true; the input reads as it did. -/
def fnExactStatsOfSpec : ChangeSpec := { name := "fnExactStatsOf", fn := fun _ => fun
  | [d1, d2, d3] => { results := [.lit (.bool true)], args := [d1, d2, d3] }
  | _ => none }
def fnExactStatsOfRow : OpenClaim := { program := "ytcdgobimidmacaa", sum := "eff732050bf6ee0815852d5d8b30541f5b239f96486b32f2e6cdd3fe489306a4", func := "loop.example/g00905/laws.FnExactStatsOf", spec := "fnExactStatsOf", unfollowed := true, recurses := true, apart := false }
def FnExactStatsOfSaid : Prop := fnExactStatsOfRow.holds Try.pinned (OpenSpec.ofChange fnExactStatsOfSpec)

/-- ITS FALSE NEIGHBOUR: 'it returns false'. Refute it at one input. -/
def fnExactStatsOfWrong : ChangeSpec := { name := "fnExactStatsOf", fn := fun _ => fun
  | [d1, d2, d3] => { results := [.lit (.bool false)], args := [d1, d2, d3] }
  | _ => none }
def FnExactStatsOfWrongFalsely : Prop := fnExactStatsOfRow.holds Try.pinned (OpenSpec.ofChange fnExactStatsOfWrong)

/-- 'laws.FnExactCompactionLevel': WHATEVER THE INPUT: true; the input reads as it did. -/
def fnExactCompactionLevelSpec : ChangeSpec := { name := "fnExactCompactionLevel", fn := fun _ => fun
  | [d] => { results := [.lit (.bool true)], args := [d] }
  | _ => none }
def fnExactCompactionLevelRow : OpenClaim := { program := "ytcdgobimidmacaa", sum := "eff732050bf6ee0815852d5d8b30541f5b239f96486b32f2e6cdd3fe489306a4", func := "loop.example/g00905/laws.FnExactCompactionLevel", spec := "fnExactCompactionLevel", inPlace := ["internal/bytealg.abigen_runtime_cmpstring"], unfollowed := true, recurses := true, apart := false }
def FnExactCompactionLevelSaid : Prop := fnExactCompactionLevelRow.holds Try.pinned (OpenSpec.ofChange fnExactCompactionLevelSpec)

/-- ITS FALSE NEIGHBOUR: 'it returns false'. Refute it at one input. -/
def fnExactCompactionLevelWrong : ChangeSpec := { name := "fnExactCompactionLevel", fn := fun _ => fun
  | [d] => { results := [.lit (.bool false)], args := [d] }
  | _ => none }
def FnExactCompactionLevelWrongFalsely : Prop := fnExactCompactionLevelRow.holds Try.pinned (OpenSpec.ofChange fnExactCompactionLevelWrong)

/-- 'laws.FnFreeBlocks': WHATEVER THE INPUT: true; the input reads as it did. -/
def fnFreeBlocksSpec : ChangeSpec := { name := "fnFreeBlocks", fn := fun _ => fun
  | [d] => { results := [.lit (.bool true)], args := [d] }
  | _ => none }
def fnFreeBlocksRow : OpenClaim := { program := "ytcdgobimidmacaa", sum := "eff732050bf6ee0815852d5d8b30541f5b239f96486b32f2e6cdd3fe489306a4", func := "loop.example/g00905/laws.FnFreeBlocks", spec := "fnFreeBlocks", unfollowed := true, recurses := true, apart := false }
def FnFreeBlocksSaid : Prop := fnFreeBlocksRow.holds Try.pinned (OpenSpec.ofChange fnFreeBlocksSpec)

/-- ITS FALSE NEIGHBOUR: 'it returns false'. Refute it at one input. -/
def fnFreeBlocksWrong : ChangeSpec := { name := "fnFreeBlocks", fn := fun _ => fun
  | [d] => { results := [.lit (.bool false)], args := [d] }
  | _ => none }
def FnFreeBlocksWrongFalsely : Prop := fnFreeBlocksRow.holds Try.pinned (OpenSpec.ofChange fnFreeBlocksWrong)

/-- 'laws.FnExactTablesAt': WHATEVER THE INPUT: true; the input reads as it did. -/
def fnExactTablesAtSpec : ChangeSpec := { name := "fnExactTablesAt", fn := fun _ => fun
  | [d1, d2] => { results := [.lit (.bool true)], args := [d1, d2] }
  | _ => none }
def fnExactTablesAtRow : OpenClaim := { program := "ytcdgobimidmacaa", sum := "eff732050bf6ee0815852d5d8b30541f5b239f96486b32f2e6cdd3fe489306a4", func := "loop.example/g00905/laws.FnExactTablesAt", spec := "fnExactTablesAt", inPlace := ["internal/bytealg.abigen_runtime_cmpstring"], unfollowed := true, recurses := true, apart := false }
def FnExactTablesAtSaid : Prop := fnExactTablesAtRow.holds Try.pinned (OpenSpec.ofChange fnExactTablesAtSpec)

/-- ITS FALSE NEIGHBOUR: 'it returns false'. Refute it at one input. -/
def fnExactTablesAtWrong : ChangeSpec := { name := "fnExactTablesAt", fn := fun _ => fun
  | [d1, d2] => { results := [.lit (.bool false)], args := [d1, d2] }
  | _ => none }
def FnExactTablesAtWrongFalsely : Prop := fnExactTablesAtRow.holds Try.pinned (OpenSpec.ofChange fnExactTablesAtWrong)

/-- 'laws.FnExactIsBottom': WHATEVER THE INPUT: true; the input reads as it did. -/
def fnExactIsBottomSpec : ChangeSpec := { name := "fnExactIsBottom", fn := fun _ => fun
  | [d1, d2] => { results := [.lit (.bool true)], args := [d1, d2] }
  | _ => none }
def fnExactIsBottomRow : OpenClaim := { program := "ytcdgobimidmacaa", sum := "eff732050bf6ee0815852d5d8b30541f5b239f96486b32f2e6cdd3fe489306a4", func := "loop.example/g00905/laws.FnExactIsBottom", spec := "fnExactIsBottom", inPlace := ["internal/bytealg.abigen_runtime_cmpstring"], unfollowed := true, recurses := true, apart := false }
def FnExactIsBottomSaid : Prop := fnExactIsBottomRow.holds Try.pinned (OpenSpec.ofChange fnExactIsBottomSpec)

/-- ITS FALSE NEIGHBOUR: 'it returns false'. Refute it at one input. -/
def fnExactIsBottomWrong : ChangeSpec := { name := "fnExactIsBottom", fn := fun _ => fun
  | [d1, d2] => { results := [.lit (.bool false)], args := [d1, d2] }
  | _ => none }
def FnExactIsBottomWrongFalsely : Prop := fnExactIsBottomRow.holds Try.pinned (OpenSpec.ofChange fnExactIsBottomWrong)

/-- 'laws.FnExactCompactionCost': WHATEVER THE INPUT: true; the input reads as it did. -/
def fnExactCompactionCostSpec : ChangeSpec := { name := "fnExactCompactionCost", fn := fun _ => fun
  | [d1, d2] => { results := [.lit (.bool true)], args := [d1, d2] }
  | _ => none }
def fnExactCompactionCostRow : OpenClaim := { program := "ytcdgobimidmacaa", sum := "eff732050bf6ee0815852d5d8b30541f5b239f96486b32f2e6cdd3fe489306a4", func := "loop.example/g00905/laws.FnExactCompactionCost", spec := "fnExactCompactionCost", inPlace := ["internal/bytealg.abigen_runtime_cmpstring"], unfollowed := true, recurses := true, apart := false }
def FnExactCompactionCostSaid : Prop := fnExactCompactionCostRow.holds Try.pinned (OpenSpec.ofChange fnExactCompactionCostSpec)

/-- ITS FALSE NEIGHBOUR: 'it returns false'. Refute it at one input. -/
def fnExactCompactionCostWrong : ChangeSpec := { name := "fnExactCompactionCost", fn := fun _ => fun
  | [d1, d2] => { results := [.lit (.bool false)], args := [d1, d2] }
  | _ => none }
def FnExactCompactionCostWrongFalsely : Prop := fnExactCompactionCostRow.holds Try.pinned (OpenSpec.ofChange fnExactCompactionCostWrong)

/-- 'laws.FnExactMovedBy': WHATEVER THE INPUT: true; the input reads as it did. -/
def fnExactMovedBySpec : ChangeSpec := { name := "fnExactMovedBy", fn := fun _ => fun
  | [d1, d2] => { results := [.lit (.bool true)], args := [d1, d2] }
  | _ => none }
def fnExactMovedByRow : OpenClaim := { program := "ytcdgobimidmacaa", sum := "eff732050bf6ee0815852d5d8b30541f5b239f96486b32f2e6cdd3fe489306a4", func := "loop.example/g00905/laws.FnExactMovedBy", spec := "fnExactMovedBy", inPlace := ["internal/bytealg.abigen_runtime_cmpstring"], unfollowed := true, recurses := true, apart := false }
def FnExactMovedBySaid : Prop := fnExactMovedByRow.holds Try.pinned (OpenSpec.ofChange fnExactMovedBySpec)

/-- ITS FALSE NEIGHBOUR: 'it returns false'. Refute it at one input. -/
def fnExactMovedByWrong : ChangeSpec := { name := "fnExactMovedBy", fn := fun _ => fun
  | [d1, d2] => { results := [.lit (.bool false)], args := [d1, d2] }
  | _ => none }
def FnExactMovedByWrongFalsely : Prop := fnExactMovedByRow.holds Try.pinned (OpenSpec.ofChange fnExactMovedByWrong)

/-- 'laws.FnExactInputsOf': WHATEVER THE INPUT: true; the input reads as it did. -/
def fnExactInputsOfSpec : ChangeSpec := { name := "fnExactInputsOf", fn := fun _ => fun
  | [d1, d2] => { results := [.lit (.bool true)], args := [d1, d2] }
  | _ => none }
def fnExactInputsOfRow : OpenClaim := { program := "ytcdgobimidmacaa", sum := "eff732050bf6ee0815852d5d8b30541f5b239f96486b32f2e6cdd3fe489306a4", func := "loop.example/g00905/laws.FnExactInputsOf", spec := "fnExactInputsOf", inPlace := ["internal/bytealg.abigen_runtime_cmpstring"], unfollowed := true, recurses := true, apart := false }
def FnExactInputsOfSaid : Prop := fnExactInputsOfRow.holds Try.pinned (OpenSpec.ofChange fnExactInputsOfSpec)

/-- ITS FALSE NEIGHBOUR: 'it returns false'. Refute it at one input. -/
def fnExactInputsOfWrong : ChangeSpec := { name := "fnExactInputsOf", fn := fun _ => fun
  | [d1, d2] => { results := [.lit (.bool false)], args := [d1, d2] }
  | _ => none }
def FnExactInputsOfWrongFalsely : Prop := fnExactInputsOfRow.holds Try.pinned (OpenSpec.ofChange fnExactInputsOfWrong)

/- THE SECOND FORM. 'bulk': how many values and letters a reading holds, each counted each time it is reached (what is shared counts as often as it is met; a slice's spare places count too). A statement '..UptoSaid' is the law's where the arguments, and the package variables that the reading takes, are together of bulk at most 1048576: NARROWER than '..Said'. Prove '..Said' where nothing that the law and all that it calls make is longer than what came in: it says more and counts as full. Else prove '..UptoSaid'. A law counts once. -/
mutual
def uptoBulk {H : Type} : DataW H → Nat
  | .lit (.string bytes) => bytes.length + 1
  | .lit _ => 1
  | .nil => 1
  | .ptr d => uptoBulk d + 1
  | .slice elems spare => uptoBulkAll elems + uptoBulkAll spare + 1
  | .agg parts => uptoBulkAll parts + 1
  | .iface _ d => uptoBulk d + 1
  | .map entries => uptoBulkEntries entries + 1
  | .held _ => 1
def uptoBulkAll {H : Type} : List (DataW H) → Nat
  | [] => 0
  | d :: r => uptoBulk d + uptoBulkAll r
def uptoBulkEntries {H : Type} : List (Lit × DataW H) → Nat
  | [] => 0
  | x :: r => uptoBulkEntry x + uptoBulkEntries r
def uptoBulkEntry {H : Type} : Lit × DataW H → Nat
  | (.string bytes, d) => bytes.length + uptoBulk d + 1
  | (_, d) => uptoBulk d + 1
 end
def uptoSmall : (H : Type) → List (DataW H) → Bool := fun _ ds => decide (uptoBulkAll ds ≤ 1048576)
def OpenSpec.upto (s : _root_.Go.ChangeSpec) : _root_.Go.OpenSpec := { _root_.Go.OpenSpec.ofChange s with cond := some uptoSmall }

/-- 'laws.FnErasePasses', WHERE WHAT IT READS IS OF BULK AT MOST 1048576: true; the input reads as it did. -/
def fnErasePassesUptoRow : OpenClaim := { program := "ytcdgobimidmacaa", sum := "eff732050bf6ee0815852d5d8b30541f5b239f96486b32f2e6cdd3fe489306a4", func := "loop.example/g00905/laws.FnErasePasses", spec := "fnErasePasses", unfollowed := true, recurses := true, apart := false, narrowed := true }
def FnErasePassesUptoSaid : Prop := fnErasePassesUptoRow.holds Try.pinned (OpenSpec.upto fnErasePassesSpec)

/-- 'laws.FnCleaning', WHERE WHAT IT READS IS OF BULK AT MOST 1048576: true; the input reads as it did. -/
def fnCleaningUptoRow : OpenClaim := { program := "ytcdgobimidmacaa", sum := "eff732050bf6ee0815852d5d8b30541f5b239f96486b32f2e6cdd3fe489306a4", func := "loop.example/g00905/laws.FnCleaning", spec := "fnCleaning", unfollowed := true, recurses := true, apart := false, narrowed := true }
def FnCleaningUptoSaid : Prop := fnCleaningUptoRow.holds Try.pinned (OpenSpec.upto fnCleaningSpec)

/-- 'laws.FnStreams', WHERE WHAT IT READS IS OF BULK AT MOST 1048576: true; the input reads as it did. -/
def fnStreamsUptoRow : OpenClaim := { program := "ytcdgobimidmacaa", sum := "eff732050bf6ee0815852d5d8b30541f5b239f96486b32f2e6cdd3fe489306a4", func := "loop.example/g00905/laws.FnStreams", spec := "fnStreams", unfollowed := true, recurses := true, apart := false, narrowed := true }
def FnStreamsUptoSaid : Prop := fnStreamsUptoRow.holds Try.pinned (OpenSpec.upto fnStreamsSpec)

/-- 'laws.FnFtlMap', WHERE WHAT IT READS IS OF BULK AT MOST 1048576: true; the input reads as it did. -/
def fnFtlMapUptoRow : OpenClaim := { program := "ytcdgobimidmacaa", sum := "eff732050bf6ee0815852d5d8b30541f5b239f96486b32f2e6cdd3fe489306a4", func := "loop.example/g00905/laws.FnFtlMap", spec := "fnFtlMap", apart := false, narrowed := true }
def FnFtlMapUptoSaid : Prop := fnFtlMapUptoRow.holds Try.pinned (OpenSpec.upto fnFtlMapSpec)

/-- 'laws.FnExactStatsOf', WHERE WHAT IT READS IS OF BULK AT MOST 1048576: true; the input reads as it did. -/
def fnExactStatsOfUptoRow : OpenClaim := { program := "ytcdgobimidmacaa", sum := "eff732050bf6ee0815852d5d8b30541f5b239f96486b32f2e6cdd3fe489306a4", func := "loop.example/g00905/laws.FnExactStatsOf", spec := "fnExactStatsOf", unfollowed := true, recurses := true, apart := false, narrowed := true }
def FnExactStatsOfUptoSaid : Prop := fnExactStatsOfUptoRow.holds Try.pinned (OpenSpec.upto fnExactStatsOfSpec)

/-- 'laws.FnExactCompactionLevel', WHERE WHAT IT READS IS OF BULK AT MOST 1048576: true; the input reads as it did. -/
def fnExactCompactionLevelUptoRow : OpenClaim := { program := "ytcdgobimidmacaa", sum := "eff732050bf6ee0815852d5d8b30541f5b239f96486b32f2e6cdd3fe489306a4", func := "loop.example/g00905/laws.FnExactCompactionLevel", spec := "fnExactCompactionLevel", inPlace := ["internal/bytealg.abigen_runtime_cmpstring"], unfollowed := true, recurses := true, apart := false, narrowed := true }
def FnExactCompactionLevelUptoSaid : Prop := fnExactCompactionLevelUptoRow.holds Try.pinned (OpenSpec.upto fnExactCompactionLevelSpec)

/-- 'laws.FnFreeBlocks', WHERE WHAT IT READS IS OF BULK AT MOST 1048576: true; the input reads as it did. -/
def fnFreeBlocksUptoRow : OpenClaim := { program := "ytcdgobimidmacaa", sum := "eff732050bf6ee0815852d5d8b30541f5b239f96486b32f2e6cdd3fe489306a4", func := "loop.example/g00905/laws.FnFreeBlocks", spec := "fnFreeBlocks", unfollowed := true, recurses := true, apart := false, narrowed := true }
def FnFreeBlocksUptoSaid : Prop := fnFreeBlocksUptoRow.holds Try.pinned (OpenSpec.upto fnFreeBlocksSpec)

/-- 'laws.FnExactTablesAt', WHERE WHAT IT READS IS OF BULK AT MOST 1048576: true; the input reads as it did. -/
def fnExactTablesAtUptoRow : OpenClaim := { program := "ytcdgobimidmacaa", sum := "eff732050bf6ee0815852d5d8b30541f5b239f96486b32f2e6cdd3fe489306a4", func := "loop.example/g00905/laws.FnExactTablesAt", spec := "fnExactTablesAt", inPlace := ["internal/bytealg.abigen_runtime_cmpstring"], unfollowed := true, recurses := true, apart := false, narrowed := true }
def FnExactTablesAtUptoSaid : Prop := fnExactTablesAtUptoRow.holds Try.pinned (OpenSpec.upto fnExactTablesAtSpec)

/-- 'laws.FnExactIsBottom', WHERE WHAT IT READS IS OF BULK AT MOST 1048576: true; the input reads as it did. -/
def fnExactIsBottomUptoRow : OpenClaim := { program := "ytcdgobimidmacaa", sum := "eff732050bf6ee0815852d5d8b30541f5b239f96486b32f2e6cdd3fe489306a4", func := "loop.example/g00905/laws.FnExactIsBottom", spec := "fnExactIsBottom", inPlace := ["internal/bytealg.abigen_runtime_cmpstring"], unfollowed := true, recurses := true, apart := false, narrowed := true }
def FnExactIsBottomUptoSaid : Prop := fnExactIsBottomUptoRow.holds Try.pinned (OpenSpec.upto fnExactIsBottomSpec)

/-- 'laws.FnExactCompactionCost', WHERE WHAT IT READS IS OF BULK AT MOST 1048576: true; the input reads as it did. -/
def fnExactCompactionCostUptoRow : OpenClaim := { program := "ytcdgobimidmacaa", sum := "eff732050bf6ee0815852d5d8b30541f5b239f96486b32f2e6cdd3fe489306a4", func := "loop.example/g00905/laws.FnExactCompactionCost", spec := "fnExactCompactionCost", inPlace := ["internal/bytealg.abigen_runtime_cmpstring"], unfollowed := true, recurses := true, apart := false, narrowed := true }
def FnExactCompactionCostUptoSaid : Prop := fnExactCompactionCostUptoRow.holds Try.pinned (OpenSpec.upto fnExactCompactionCostSpec)

/-- 'laws.FnExactMovedBy', WHERE WHAT IT READS IS OF BULK AT MOST 1048576: true; the input reads as it did. -/
def fnExactMovedByUptoRow : OpenClaim := { program := "ytcdgobimidmacaa", sum := "eff732050bf6ee0815852d5d8b30541f5b239f96486b32f2e6cdd3fe489306a4", func := "loop.example/g00905/laws.FnExactMovedBy", spec := "fnExactMovedBy", inPlace := ["internal/bytealg.abigen_runtime_cmpstring"], unfollowed := true, recurses := true, apart := false, narrowed := true }
def FnExactMovedByUptoSaid : Prop := fnExactMovedByUptoRow.holds Try.pinned (OpenSpec.upto fnExactMovedBySpec)

/-- 'laws.FnExactInputsOf', WHERE WHAT IT READS IS OF BULK AT MOST 1048576: true; the input reads as it did. -/
def fnExactInputsOfUptoRow : OpenClaim := { program := "ytcdgobimidmacaa", sum := "eff732050bf6ee0815852d5d8b30541f5b239f96486b32f2e6cdd3fe489306a4", func := "loop.example/g00905/laws.FnExactInputsOf", spec := "fnExactInputsOf", inPlace := ["internal/bytealg.abigen_runtime_cmpstring"], unfollowed := true, recurses := true, apart := false, narrowed := true }
def FnExactInputsOfUptoSaid : Prop := fnExactInputsOfUptoRow.holds Try.pinned (OpenSpec.upto fnExactInputsOfSpec)

end Rows
end Go.Proofs.Ytcdgobimidmacaa

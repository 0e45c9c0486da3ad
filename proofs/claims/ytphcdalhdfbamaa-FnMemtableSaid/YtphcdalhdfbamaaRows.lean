/-
  No cell of these rows narrows 'for every input' (looked for: loops, veiled, ifaces, maps, wideKeys, modest, calm, conditions, laid).
  DERIVED. THE GIVEN ROWS OF THIS SEAT. 11 by the template 'for every input the law returns true; each argument reads behind the call as it read before'; 0 by the template 'total and deterministic' (their statements: YtphcdalhdfbamaaTotals.lean).
  GIVEN WITH THE SEED: the statements are not yours to turn. If you find one false, say at which input.
  Laid BY PROGRAM, IN A SANDBOX (cutbox-rows.mjs): the forced cells as the released guide's own fill.sh prints them over the translation e2efdbe9d0da5410… (all of the seat's roots in one cut). By AI agents, Wed Nov 11 2026. No macro, syntax, notation, axiom, sorry.
-/
import Derived.Test.YtphcdalhdfbamaaChecked
import GoSem.Claim
import GoSem.ClaimJoined
import GoSem.ClaimMapViews
import Derived.JoinedTies
import Derived.KernelRfl
namespace Go.Proofs.Ytphcdalhdfbamaa
/- THE CELL 'sum', in the pinned program and in every row, IS THE sha256 OF THE DUMP (.gsa) THAT YtphcdalhdfbamaaProg.lean LOADS. Nothing in Lean hashes anything: it is a label: what it is worth is what the hold of that sum in a sandbox is worth. -/
noncomputable def Try.pinned : Pinned := { name := "ytphcdalhdfbamaa", sum := "e2efdbe9d0da5410076f5efab22c349e40bf2e393c5f7db066bd18e3a17c4978", checked := Try.checked }
namespace Rows
def none {H : Type} : Left H := { results := [], args := [] }

/-- 'laws.FnDropHidden': WHATEVER THE INPUT: true; the input reads as it did. -/
def fnDropHiddenSpec : ChangeSpec := { name := "fnDropHidden", fn := fun _ => fun
  | [d] => { results := [.lit (.bool true)], args := [d] }
  | _ => none }
def fnDropHiddenRow : OpenClaim := { program := "ytphcdalhdfbamaa", sum := "e2efdbe9d0da5410076f5efab22c349e40bf2e393c5f7db066bd18e3a17c4978", func := "loop.example/g00905/laws.FnDropHidden", spec := "fnDropHidden", inPlace := ["internal/bytealg.abigen_runtime_cmpstring"], unfollowed := true, recurses := true, apart := false }
def FnDropHiddenSaid : Prop := fnDropHiddenRow.holds Try.pinned (OpenSpec.ofChange fnDropHiddenSpec)

/-- ITS FALSE NEIGHBOUR: 'it returns false'. Refute it at one input. -/
def fnDropHiddenWrong : ChangeSpec := { name := "fnDropHidden", fn := fun _ => fun
  | [d] => { results := [.lit (.bool false)], args := [d] }
  | _ => none }
def FnDropHiddenWrongFalsely : Prop := fnDropHiddenRow.holds Try.pinned (OpenSpec.ofChange fnDropHiddenWrong)

/-- 'laws.FnSplit': WHATEVER THE INPUT: true; the input reads as it did. -/
def fnSplitSpec : ChangeSpec := { name := "fnSplit", fn := fun _ => fun
  | [d] => { results := [.lit (.bool true)], args := [d] }
  | _ => none }
def fnSplitRow : OpenClaim := { program := "ytphcdalhdfbamaa", sum := "e2efdbe9d0da5410076f5efab22c349e40bf2e393c5f7db066bd18e3a17c4978", func := "loop.example/g00905/laws.FnSplit", spec := "fnSplit", inPlace := ["internal/bytealg.abigen_runtime_cmpstring"], unfollowed := true, recurses := true, apart := false }
def FnSplitSaid : Prop := fnSplitRow.holds Try.pinned (OpenSpec.ofChange fnSplitSpec)

/-- ITS FALSE NEIGHBOUR: 'it returns false'. Refute it at one input. -/
def fnSplitWrong : ChangeSpec := { name := "fnSplit", fn := fun _ => fun
  | [d] => { results := [.lit (.bool false)], args := [d] }
  | _ => none }
def FnSplitWrongFalsely : Prop := fnSplitRow.holds Try.pinned (OpenSpec.ofChange fnSplitWrong)

/-- 'laws.FnBlocks': WHATEVER THE INPUT: true; the input reads as it did. -/
def fnBlocksSpec : ChangeSpec := { name := "fnBlocks", fn := fun _ => fun
  | [d] => { results := [.lit (.bool true)], args := [d] }
  | _ => none }
def fnBlocksRow : OpenClaim := { program := "ytphcdalhdfbamaa", sum := "e2efdbe9d0da5410076f5efab22c349e40bf2e393c5f7db066bd18e3a17c4978", func := "loop.example/g00905/laws.FnBlocks", spec := "fnBlocks", inPlace := ["internal/bytealg.abigen_runtime_cmpstring", "internal/abi.NoEscape"], unfollowed := true, recurses := true, apart := false }
def FnBlocksSaid : Prop := fnBlocksRow.holds Try.pinned (OpenSpec.ofChange fnBlocksSpec)

/-- ITS FALSE NEIGHBOUR: 'it returns false'. Refute it at one input. -/
def fnBlocksWrong : ChangeSpec := { name := "fnBlocks", fn := fun _ => fun
  | [d] => { results := [.lit (.bool false)], args := [d] }
  | _ => none }
def FnBlocksWrongFalsely : Prop := fnBlocksRow.holds Try.pinned (OpenSpec.ofChange fnBlocksWrong)

/-- 'laws.FnMemScan': WHATEVER THE INPUT: true; the input reads as it did. -/
def fnMemScanSpec : ChangeSpec := { name := "fnMemScan", fn := fun _ => fun
  | [d] => { results := [.lit (.bool true)], args := [d] }
  | _ => none }
def fnMemScanRow : OpenClaim := { program := "ytphcdalhdfbamaa", sum := "e2efdbe9d0da5410076f5efab22c349e40bf2e393c5f7db066bd18e3a17c4978", func := "loop.example/g00905/laws.FnMemScan", spec := "fnMemScan", inPlace := ["internal/bytealg.abigen_runtime_cmpstring", "internal/abi.NoEscape"], unfollowed := true, recurses := true, apart := false }
def FnMemScanSaid : Prop := fnMemScanRow.holds Try.pinned (OpenSpec.ofChange fnMemScanSpec)

/-- ITS FALSE NEIGHBOUR: 'it returns false'. Refute it at one input. -/
def fnMemScanWrong : ChangeSpec := { name := "fnMemScan", fn := fun _ => fun
  | [d] => { results := [.lit (.bool false)], args := [d] }
  | _ => none }
def FnMemScanWrongFalsely : Prop := fnMemScanRow.holds Try.pinned (OpenSpec.ofChange fnMemScanWrong)

/-- 'laws.FnMemtable': WHATEVER THE INPUT: true; the input reads as it did. -/
def fnMemtableSpec : ChangeSpec := { name := "fnMemtable", fn := fun _ => fun
  | [d] => { results := [.lit (.bool true)], args := [d] }
  | _ => none }
def fnMemtableRow : OpenClaim := { program := "ytphcdalhdfbamaa", sum := "e2efdbe9d0da5410076f5efab22c349e40bf2e393c5f7db066bd18e3a17c4978", func := "loop.example/g00905/laws.FnMemtable", spec := "fnMemtable", inPlace := ["internal/bytealg.abigen_runtime_cmpstring", "slices.overlaps[loop.example/g00905/impl.Record]"], unfollowed := true, recurses := true, apart := false }
def FnMemtableSaid : Prop := fnMemtableRow.holds Try.pinned (OpenSpec.ofChange fnMemtableSpec)

/-- ITS FALSE NEIGHBOUR: 'it returns false'. Refute it at one input. -/
def fnMemtableWrong : ChangeSpec := { name := "fnMemtable", fn := fun _ => fun
  | [d] => { results := [.lit (.bool false)], args := [d] }
  | _ => none }
def FnMemtableWrongFalsely : Prop := fnMemtableRow.holds Try.pinned (OpenSpec.ofChange fnMemtableWrong)

/-- 'laws.FnVisible': WHATEVER THE INPUT: true; the input reads as it did. -/
def fnVisibleSpec : ChangeSpec := { name := "fnVisible", fn := fun _ => fun
  | [d] => { results := [.lit (.bool true)], args := [d] }
  | _ => none }
def fnVisibleRow : OpenClaim := { program := "ytphcdalhdfbamaa", sum := "e2efdbe9d0da5410076f5efab22c349e40bf2e393c5f7db066bd18e3a17c4978", func := "loop.example/g00905/laws.FnVisible", spec := "fnVisible", inPlace := ["internal/bytealg.abigen_runtime_cmpstring", "slices.overlaps[loop.example/g00905/impl.Pair]"], unfollowed := true, recurses := true, apart := false }
def FnVisibleSaid : Prop := fnVisibleRow.holds Try.pinned (OpenSpec.ofChange fnVisibleSpec)

/-- ITS FALSE NEIGHBOUR: 'it returns false'. Refute it at one input. -/
def fnVisibleWrong : ChangeSpec := { name := "fnVisible", fn := fun _ => fun
  | [d] => { results := [.lit (.bool false)], args := [d] }
  | _ => none }
def FnVisibleWrongFalsely : Prop := fnVisibleRow.holds Try.pinned (OpenSpec.ofChange fnVisibleWrong)

/-- 'laws.FnRecordOrder': WHATEVER THE INPUT: true; the input reads as it did. -/
def fnRecordOrderSpec : ChangeSpec := { name := "fnRecordOrder", fn := fun _ => fun
  | [d] => { results := [.lit (.bool true)], args := [d] }
  | _ => none }
def fnRecordOrderRow : OpenClaim := { program := "ytphcdalhdfbamaa", sum := "e2efdbe9d0da5410076f5efab22c349e40bf2e393c5f7db066bd18e3a17c4978", func := "loop.example/g00905/laws.FnRecordOrder", spec := "fnRecordOrder", inPlace := ["internal/bytealg.abigen_runtime_cmpstring"], unfollowed := true, recurses := true, apart := false }
def FnRecordOrderSaid : Prop := fnRecordOrderRow.holds Try.pinned (OpenSpec.ofChange fnRecordOrderSpec)

/-- ITS FALSE NEIGHBOUR: 'it returns false'. Refute it at one input. -/
def fnRecordOrderWrong : ChangeSpec := { name := "fnRecordOrder", fn := fun _ => fun
  | [d] => { results := [.lit (.bool false)], args := [d] }
  | _ => none }
def FnRecordOrderWrongFalsely : Prop := fnRecordOrderRow.holds Try.pinned (OpenSpec.ofChange fnRecordOrderWrong)

/-- 'laws.FnMerge': WHATEVER THE INPUT: true; the input reads as it did. -/
def fnMergeSpec : ChangeSpec := { name := "fnMerge", fn := fun _ => fun
  | [d] => { results := [.lit (.bool true)], args := [d] }
  | _ => none }
def fnMergeRow : OpenClaim := { program := "ytphcdalhdfbamaa", sum := "e2efdbe9d0da5410076f5efab22c349e40bf2e393c5f7db066bd18e3a17c4978", func := "loop.example/g00905/laws.FnMerge", spec := "fnMerge", inPlace := ["internal/bytealg.abigen_runtime_cmpstring"], unfollowed := true, recurses := true, apart := false }
def FnMergeSaid : Prop := fnMergeRow.holds Try.pinned (OpenSpec.ofChange fnMergeSpec)

/-- ITS FALSE NEIGHBOUR: 'it returns false'. Refute it at one input. -/
def fnMergeWrong : ChangeSpec := { name := "fnMerge", fn := fun _ => fun
  | [d] => { results := [.lit (.bool false)], args := [d] }
  | _ => none }
def FnMergeWrongFalsely : Prop := fnMergeRow.holds Try.pinned (OpenSpec.ofChange fnMergeWrong)

/-- 'laws.FnPrune': WHATEVER THE INPUT: true; the input reads as it did. -/
def fnPruneSpec : ChangeSpec := { name := "fnPrune", fn := fun _ => fun
  | [d] => { results := [.lit (.bool true)], args := [d] }
  | _ => none }
def fnPruneRow : OpenClaim := { program := "ytphcdalhdfbamaa", sum := "e2efdbe9d0da5410076f5efab22c349e40bf2e393c5f7db066bd18e3a17c4978", func := "loop.example/g00905/laws.FnPrune", spec := "fnPrune", inPlace := ["internal/bytealg.abigen_runtime_cmpstring"], unfollowed := true, recurses := true, apart := false }
def FnPruneSaid : Prop := fnPruneRow.holds Try.pinned (OpenSpec.ofChange fnPruneSpec)

/-- ITS FALSE NEIGHBOUR: 'it returns false'. Refute it at one input. -/
def fnPruneWrong : ChangeSpec := { name := "fnPrune", fn := fun _ => fun
  | [d] => { results := [.lit (.bool false)], args := [d] }
  | _ => none }
def FnPruneWrongFalsely : Prop := fnPruneRow.holds Try.pinned (OpenSpec.ofChange fnPruneWrong)

/-- 'laws.FnRangeDel': WHATEVER THE INPUT: true; the input reads as it did. -/
def fnRangeDelSpec : ChangeSpec := { name := "fnRangeDel", fn := fun _ => fun
  | [d] => { results := [.lit (.bool true)], args := [d] }
  | _ => none }
def fnRangeDelRow : OpenClaim := { program := "ytphcdalhdfbamaa", sum := "e2efdbe9d0da5410076f5efab22c349e40bf2e393c5f7db066bd18e3a17c4978", func := "loop.example/g00905/laws.FnRangeDel", spec := "fnRangeDel", inPlace := ["internal/bytealg.abigen_runtime_cmpstring"], unfollowed := true, recurses := true, apart := false }
def FnRangeDelSaid : Prop := fnRangeDelRow.holds Try.pinned (OpenSpec.ofChange fnRangeDelSpec)

/-- ITS FALSE NEIGHBOUR: 'it returns false'. Refute it at one input. -/
def fnRangeDelWrong : ChangeSpec := { name := "fnRangeDel", fn := fun _ => fun
  | [d] => { results := [.lit (.bool false)], args := [d] }
  | _ => none }
def FnRangeDelWrongFalsely : Prop := fnRangeDelRow.holds Try.pinned (OpenSpec.ofChange fnRangeDelWrong)

/-- 'laws.FnExactStatesAfter': WHATEVER THE INPUT: true; the input reads as it did. -/
def fnExactStatesAfterSpec : ChangeSpec := { name := "fnExactStatesAfter", fn := fun _ => fun
  | [d1, d2] => { results := [.lit (.bool true)], args := [d1, d2] }
  | _ => none }
def fnExactStatesAfterRow : OpenClaim := { program := "ytphcdalhdfbamaa", sum := "e2efdbe9d0da5410076f5efab22c349e40bf2e393c5f7db066bd18e3a17c4978", func := "loop.example/g00905/laws.FnExactStatesAfter", spec := "fnExactStatesAfter", inPlace := ["internal/bytealg.abigen_runtime_cmpstring", "slices.overlaps[loop.example/g00905/impl.Pair]"], unfollowed := true, recurses := true, apart := false }
def FnExactStatesAfterSaid : Prop := fnExactStatesAfterRow.holds Try.pinned (OpenSpec.ofChange fnExactStatesAfterSpec)

/-- ITS FALSE NEIGHBOUR: 'it returns false'. Refute it at one input. -/
def fnExactStatesAfterWrong : ChangeSpec := { name := "fnExactStatesAfter", fn := fun _ => fun
  | [d1, d2] => { results := [.lit (.bool false)], args := [d1, d2] }
  | _ => none }
def FnExactStatesAfterWrongFalsely : Prop := fnExactStatesAfterRow.holds Try.pinned (OpenSpec.ofChange fnExactStatesAfterWrong)

/- THE SECOND FORM. 'bulk': how many values and letters a reading holds, each counted each time it is reached (what is shared counts as often as it is met; a slice's spare places count too). A statement '..UptoSaid' is the law's where the arguments, and the package variables that the reading takes, are together of bulk at most 1048576: NARROWER than '..Said'. Prove '..Said' where nothing that the law and all that it calls make is longer than what came in: it says more and counts as full. Else prove '..UptoSaid'. A law counts once. -/
mutual
def uptoBulk {H : Type} : DataW H → Nat
  | .lit (.string bytes) => bytes.length + 1
  | .lit _ => 1
  | .nil => 1
  | .ptr d => uptoBulk d + 1
  | .slice elems spare => uptoBulkAll elems + uptoBulkAll spare + 1
  | .agg parts => uptoBulkAll parts + 1
  | .iface _ d => uptoBulk d + 1
  | .map entries => uptoBulkEntries entries + 1
  | .held _ => 1
def uptoBulkAll {H : Type} : List (DataW H) → Nat
  | [] => 0
  | d :: r => uptoBulk d + uptoBulkAll r
def uptoBulkEntries {H : Type} : List (Lit × DataW H) → Nat
  | [] => 0
  | x :: r => uptoBulkEntry x + uptoBulkEntries r
def uptoBulkEntry {H : Type} : Lit × DataW H → Nat
  | (.string bytes, d) => bytes.length + uptoBulk d + 1
  | (_, d) => uptoBulk d + 1
 end
def uptoSmall : (H : Type) → List (DataW H) → Bool := fun _ ds => decide (uptoBulkAll ds ≤ 1048576)
def OpenSpec.upto (s : _root_.Go.ChangeSpec) : _root_.Go.OpenSpec := { _root_.Go.OpenSpec.ofChange s with cond := some uptoSmall }

/-- 'laws.FnDropHidden', WHERE WHAT IT READS IS OF BULK AT MOST 1048576: true; the input reads as it did. -/
def fnDropHiddenUptoRow : OpenClaim := { program := "ytphcdalhdfbamaa", sum := "e2efdbe9d0da5410076f5efab22c349e40bf2e393c5f7db066bd18e3a17c4978", func := "loop.example/g00905/laws.FnDropHidden", spec := "fnDropHidden", inPlace := ["internal/bytealg.abigen_runtime_cmpstring"], unfollowed := true, recurses := true, apart := false, narrowed := true }
def FnDropHiddenUptoSaid : Prop := fnDropHiddenUptoRow.holds Try.pinned (OpenSpec.upto fnDropHiddenSpec)

/-- 'laws.FnSplit', WHERE WHAT IT READS IS OF BULK AT MOST 1048576: true; the input reads as it did. -/
def fnSplitUptoRow : OpenClaim := { program := "ytphcdalhdfbamaa", sum := "e2efdbe9d0da5410076f5efab22c349e40bf2e393c5f7db066bd18e3a17c4978", func := "loop.example/g00905/laws.FnSplit", spec := "fnSplit", inPlace := ["internal/bytealg.abigen_runtime_cmpstring"], unfollowed := true, recurses := true, apart := false, narrowed := true }
def FnSplitUptoSaid : Prop := fnSplitUptoRow.holds Try.pinned (OpenSpec.upto fnSplitSpec)

/-- 'laws.FnBlocks', WHERE WHAT IT READS IS OF BULK AT MOST 1048576: true; the input reads as it did. -/
def fnBlocksUptoRow : OpenClaim := { program := "ytphcdalhdfbamaa", sum := "e2efdbe9d0da5410076f5efab22c349e40bf2e393c5f7db066bd18e3a17c4978", func := "loop.example/g00905/laws.FnBlocks", spec := "fnBlocks", inPlace := ["internal/bytealg.abigen_runtime_cmpstring", "internal/abi.NoEscape"], unfollowed := true, recurses := true, apart := false, narrowed := true }
def FnBlocksUptoSaid : Prop := fnBlocksUptoRow.holds Try.pinned (OpenSpec.upto fnBlocksSpec)

/-- 'laws.FnMemScan', WHERE WHAT IT READS IS OF BULK AT MOST 1048576: true; the input reads as it did. -/
def fnMemScanUptoRow : OpenClaim := { program := "ytphcdalhdfbamaa", sum := "e2efdbe9d0da5410076f5efab22c349e40bf2e393c5f7db066bd18e3a17c4978", func := "loop.example/g00905/laws.FnMemScan", spec := "fnMemScan", inPlace := ["internal/bytealg.abigen_runtime_cmpstring", "internal/abi.NoEscape"], unfollowed := true, recurses := true, apart := false, narrowed := true }
def FnMemScanUptoSaid : Prop := fnMemScanUptoRow.holds Try.pinned (OpenSpec.upto fnMemScanSpec)

/-- 'laws.FnMemtable', WHERE WHAT IT READS IS OF BULK AT MOST 1048576: true; the input reads as it did. -/
def fnMemtableUptoRow : OpenClaim := { program := "ytphcdalhdfbamaa", sum := "e2efdbe9d0da5410076f5efab22c349e40bf2e393c5f7db066bd18e3a17c4978", func := "loop.example/g00905/laws.FnMemtable", spec := "fnMemtable", inPlace := ["internal/bytealg.abigen_runtime_cmpstring", "slices.overlaps[loop.example/g00905/impl.Record]"], unfollowed := true, recurses := true, apart := false, narrowed := true }
def FnMemtableUptoSaid : Prop := fnMemtableUptoRow.holds Try.pinned (OpenSpec.upto fnMemtableSpec)

/-- 'laws.FnVisible', WHERE WHAT IT READS IS OF BULK AT MOST 1048576: true; the input reads as it did. -/
def fnVisibleUptoRow : OpenClaim := { program := "ytphcdalhdfbamaa", sum := "e2efdbe9d0da5410076f5efab22c349e40bf2e393c5f7db066bd18e3a17c4978", func := "loop.example/g00905/laws.FnVisible", spec := "fnVisible", inPlace := ["internal/bytealg.abigen_runtime_cmpstring", "slices.overlaps[loop.example/g00905/impl.Pair]"], unfollowed := true, recurses := true, apart := false, narrowed := true }
def FnVisibleUptoSaid : Prop := fnVisibleUptoRow.holds Try.pinned (OpenSpec.upto fnVisibleSpec)

/-- 'laws.FnRecordOrder', WHERE WHAT IT READS IS OF BULK AT MOST 1048576: true; the input reads as it did. -/
def fnRecordOrderUptoRow : OpenClaim := { program := "ytphcdalhdfbamaa", sum := "e2efdbe9d0da5410076f5efab22c349e40bf2e393c5f7db066bd18e3a17c4978", func := "loop.example/g00905/laws.FnRecordOrder", spec := "fnRecordOrder", inPlace := ["internal/bytealg.abigen_runtime_cmpstring"], unfollowed := true, recurses := true, apart := false, narrowed := true }
def FnRecordOrderUptoSaid : Prop := fnRecordOrderUptoRow.holds Try.pinned (OpenSpec.upto fnRecordOrderSpec)

/-- 'laws.FnMerge', WHERE WHAT IT READS IS OF BULK AT MOST 1048576: true; the input reads as it did. -/
def fnMergeUptoRow : OpenClaim := { program := "ytphcdalhdfbamaa", sum := "e2efdbe9d0da5410076f5efab22c349e40bf2e393c5f7db066bd18e3a17c4978", func := "loop.example/g00905/laws.FnMerge", spec := "fnMerge", inPlace := ["internal/bytealg.abigen_runtime_cmpstring"], unfollowed := true, recurses := true, apart := false, narrowed := true }
def FnMergeUptoSaid : Prop := fnMergeUptoRow.holds Try.pinned (OpenSpec.upto fnMergeSpec)

/-- 'laws.FnPrune', WHERE WHAT IT READS IS OF BULK AT MOST 1048576: true; the input reads as it did. -/
def fnPruneUptoRow : OpenClaim := { program := "ytphcdalhdfbamaa", sum := "e2efdbe9d0da5410076f5efab22c349e40bf2e393c5f7db066bd18e3a17c4978", func := "loop.example/g00905/laws.FnPrune", spec := "fnPrune", inPlace := ["internal/bytealg.abigen_runtime_cmpstring"], unfollowed := true, recurses := true, apart := false, narrowed := true }
def FnPruneUptoSaid : Prop := fnPruneUptoRow.holds Try.pinned (OpenSpec.upto fnPruneSpec)

/-- 'laws.FnRangeDel', WHERE WHAT IT READS IS OF BULK AT MOST 1048576: true; the input reads as it did. -/
def fnRangeDelUptoRow : OpenClaim := { program := "ytphcdalhdfbamaa", sum := "e2efdbe9d0da5410076f5efab22c349e40bf2e393c5f7db066bd18e3a17c4978", func := "loop.example/g00905/laws.FnRangeDel", spec := "fnRangeDel", inPlace := ["internal/bytealg.abigen_runtime_cmpstring"], unfollowed := true, recurses := true, apart := false, narrowed := true }
def FnRangeDelUptoSaid : Prop := fnRangeDelUptoRow.holds Try.pinned (OpenSpec.upto fnRangeDelSpec)

/-- 'laws.FnExactStatesAfter', WHERE WHAT IT READS IS OF BULK AT MOST 1048576: true; the input reads as it did. -/
def fnExactStatesAfterUptoRow : OpenClaim := { program := "ytphcdalhdfbamaa", sum := "e2efdbe9d0da5410076f5efab22c349e40bf2e393c5f7db066bd18e3a17c4978", func := "loop.example/g00905/laws.FnExactStatesAfter", spec := "fnExactStatesAfter", inPlace := ["internal/bytealg.abigen_runtime_cmpstring", "slices.overlaps[loop.example/g00905/impl.Pair]"], unfollowed := true, recurses := true, apart := false, narrowed := true }
def FnExactStatesAfterUptoSaid : Prop := fnExactStatesAfterUptoRow.holds Try.pinned (OpenSpec.upto fnExactStatesAfterSpec)

end Rows
end Go.Proofs.Ytphcdalhdfbamaa

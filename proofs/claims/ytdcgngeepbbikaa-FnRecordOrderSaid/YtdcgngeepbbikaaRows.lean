/-
  No cell of these rows narrows 'for every input' (looked for: loops, veiled, ifaces, maps, wideKeys, modest, calm, conditions, laid).
  DERIVED. THE GIVEN ROWS OF THIS SEAT. 10 by the template 'for every input the law returns true; each argument reads behind the call as it read before'; 0 by the template 'total and deterministic' (their statements: YtdcgngeepbbikaaTotals.lean).
  GIVEN WITH THE SEED: the statements are not yours to turn. If you find one false, say at which input.
  Laid BY PROGRAM, IN A SANDBOX (cutbox-rows.mjs): the forced cells as the released guide's own fill.sh prints them over the translation 19b870303a939a8e… (all of the seat's roots in one cut). By AI agents, Wed Nov 11 2026. No macro, syntax, notation, axiom, sorry.
-/
import Derived.Test.YtdcgngeepbbikaaChecked
import GoSem.Claim
import GoSem.ClaimJoined
import GoSem.ClaimMapViews
import Derived.JoinedTies
import Derived.KernelRfl
namespace Go.Proofs.Ytdcgngeepbbikaa
/- THE CELL 'sum', in the pinned program and in every row, IS THE sha256 OF THE DUMP (.gsa) THAT YtdcgngeepbbikaaProg.lean LOADS. Nothing in Lean hashes anything: it is a label: what it is worth is what the hold of that sum in a sandbox is worth. -/
noncomputable def Try.pinned : Pinned := { name := "ytdcgngeepbbikaa", sum := "19b870303a939a8eaf6d008ab6545029a3ca3ca18a48ad4a0f12591ec0af0781", checked := Try.checked }
namespace Rows
def none {H : Type} : Left H := { results := [], args := [] }

/-- 'laws.FnBloomNoMiss': WHATEVER THE INPUT: true; the input reads as it did. -/
def fnBloomNoMissSpec : ChangeSpec := { name := "fnBloomNoMiss", fn := fun _ => fun
  | [d] => { results := [.lit (.bool true)], args := [d] }
  | _ => none }
def fnBloomNoMissRow : OpenClaim := { program := "ytdcgngeepbbikaa", sum := "19b870303a939a8eaf6d008ab6545029a3ca3ca18a48ad4a0f12591ec0af0781", func := "loop.example/g00905/laws.FnBloomNoMiss", spec := "fnBloomNoMiss", inPlace := ["internal/abi.NoEscape", "internal/bytealg.MakeNoZero"], unfollowed := true, recurses := true, apart := false }
def FnBloomNoMissSaid : Prop := fnBloomNoMissRow.holds Try.pinned (OpenSpec.ofChange fnBloomNoMissSpec)

/-- ITS FALSE NEIGHBOUR: 'it returns false'. Refute it at one input. -/
def fnBloomNoMissWrong : ChangeSpec := { name := "fnBloomNoMiss", fn := fun _ => fun
  | [d] => { results := [.lit (.bool false)], args := [d] }
  | _ => none }
def FnBloomNoMissWrongFalsely : Prop := fnBloomNoMissRow.holds Try.pinned (OpenSpec.ofChange fnBloomNoMissWrong)

/-- 'laws.FnExactPrefixOf': WHATEVER THE INPUT: true; the input reads as it did. -/
def fnExactPrefixOfSpec : ChangeSpec := { name := "fnExactPrefixOf", fn := fun _ => fun
  | [d1, d2] => { results := [.lit (.bool true)], args := [d1, d2] }
  | _ => none }
def fnExactPrefixOfRow : OpenClaim := { program := "ytdcgngeepbbikaa", sum := "19b870303a939a8eaf6d008ab6545029a3ca3ca18a48ad4a0f12591ec0af0781", func := "loop.example/g00905/laws.FnExactPrefixOf", spec := "fnExactPrefixOf", inPlace := ["internal/bytealg.abigen_runtime_cmpstring", "slices.overlaps[loop.example/g00905/impl.Pair]"], unfollowed := true, recurses := true, apart := false }
def FnExactPrefixOfSaid : Prop := fnExactPrefixOfRow.holds Try.pinned (OpenSpec.ofChange fnExactPrefixOfSpec)

/-- ITS FALSE NEIGHBOUR: 'it returns false'. Refute it at one input. -/
def fnExactPrefixOfWrong : ChangeSpec := { name := "fnExactPrefixOf", fn := fun _ => fun
  | [d1, d2] => { results := [.lit (.bool false)], args := [d1, d2] }
  | _ => none }
def FnExactPrefixOfWrongFalsely : Prop := fnExactPrefixOfRow.holds Try.pinned (OpenSpec.ofChange fnExactPrefixOfWrong)

/-- 'laws.FnRecordOrder': WHATEVER THE INPUT: true; the input reads as it did. -/
def fnRecordOrderSpec : ChangeSpec := { name := "fnRecordOrder", fn := fun _ => fun
  | [d] => { results := [.lit (.bool true)], args := [d] }
  | _ => none }
def fnRecordOrderRow : OpenClaim := { program := "ytdcgngeepbbikaa", sum := "19b870303a939a8eaf6d008ab6545029a3ca3ca18a48ad4a0f12591ec0af0781", func := "loop.example/g00905/laws.FnRecordOrder", spec := "fnRecordOrder", inPlace := ["internal/bytealg.abigen_runtime_cmpstring"], unfollowed := true, recurses := true, apart := false }
def FnRecordOrderSaid : Prop := fnRecordOrderRow.holds Try.pinned (OpenSpec.ofChange fnRecordOrderSpec)

/-- ITS FALSE NEIGHBOUR: 'it returns false'. Refute it at one input. -/
def fnRecordOrderWrong : ChangeSpec := { name := "fnRecordOrder", fn := fun _ => fun
  | [d] => { results := [.lit (.bool false)], args := [d] }
  | _ => none }
def FnRecordOrderWrongFalsely : Prop := fnRecordOrderRow.holds Try.pinned (OpenSpec.ofChange fnRecordOrderWrong)

/-- 'laws.FnMerge': WHATEVER THE INPUT: true; the input reads as it did. -/
def fnMergeSpec : ChangeSpec := { name := "fnMerge", fn := fun _ => fun
  | [d] => { results := [.lit (.bool true)], args := [d] }
  | _ => none }
def fnMergeRow : OpenClaim := { program := "ytdcgngeepbbikaa", sum := "19b870303a939a8eaf6d008ab6545029a3ca3ca18a48ad4a0f12591ec0af0781", func := "loop.example/g00905/laws.FnMerge", spec := "fnMerge", inPlace := ["internal/bytealg.abigen_runtime_cmpstring"], unfollowed := true, recurses := true, apart := false }
def FnMergeSaid : Prop := fnMergeRow.holds Try.pinned (OpenSpec.ofChange fnMergeSpec)

/-- ITS FALSE NEIGHBOUR: 'it returns false'. Refute it at one input. -/
def fnMergeWrong : ChangeSpec := { name := "fnMerge", fn := fun _ => fun
  | [d] => { results := [.lit (.bool false)], args := [d] }
  | _ => none }
def FnMergeWrongFalsely : Prop := fnMergeRow.holds Try.pinned (OpenSpec.ofChange fnMergeWrong)

/-- 'laws.FnPrune': WHATEVER THE INPUT: true; the input reads as it did. -/
def fnPruneSpec : ChangeSpec := { name := "fnPrune", fn := fun _ => fun
  | [d] => { results := [.lit (.bool true)], args := [d] }
  | _ => none }
def fnPruneRow : OpenClaim := { program := "ytdcgngeepbbikaa", sum := "19b870303a939a8eaf6d008ab6545029a3ca3ca18a48ad4a0f12591ec0af0781", func := "loop.example/g00905/laws.FnPrune", spec := "fnPrune", inPlace := ["internal/bytealg.abigen_runtime_cmpstring"], unfollowed := true, recurses := true, apart := false }
def FnPruneSaid : Prop := fnPruneRow.holds Try.pinned (OpenSpec.ofChange fnPruneSpec)

/-- ITS FALSE NEIGHBOUR: 'it returns false'. Refute it at one input. -/
def fnPruneWrong : ChangeSpec := { name := "fnPrune", fn := fun _ => fun
  | [d] => { results := [.lit (.bool false)], args := [d] }
  | _ => none }
def FnPruneWrongFalsely : Prop := fnPruneRow.holds Try.pinned (OpenSpec.ofChange fnPruneWrong)

/-- 'laws.FnRangeDel': WHATEVER THE INPUT: true; the input reads as it did. -/
def fnRangeDelSpec : ChangeSpec := { name := "fnRangeDel", fn := fun _ => fun
  | [d] => { results := [.lit (.bool true)], args := [d] }
  | _ => none }
def fnRangeDelRow : OpenClaim := { program := "ytdcgngeepbbikaa", sum := "19b870303a939a8eaf6d008ab6545029a3ca3ca18a48ad4a0f12591ec0af0781", func := "loop.example/g00905/laws.FnRangeDel", spec := "fnRangeDel", inPlace := ["internal/bytealg.abigen_runtime_cmpstring"], unfollowed := true, recurses := true, apart := false }
def FnRangeDelSaid : Prop := fnRangeDelRow.holds Try.pinned (OpenSpec.ofChange fnRangeDelSpec)

/-- ITS FALSE NEIGHBOUR: 'it returns false'. Refute it at one input. -/
def fnRangeDelWrong : ChangeSpec := { name := "fnRangeDel", fn := fun _ => fun
  | [d] => { results := [.lit (.bool false)], args := [d] }
  | _ => none }
def FnRangeDelWrongFalsely : Prop := fnRangeDelRow.holds Try.pinned (OpenSpec.ofChange fnRangeDelWrong)

/-- 'laws.FnExactPotentialAfter': WHATEVER THE INPUT: true; the input reads as it did. -/
def fnExactPotentialAfterSpec : ChangeSpec := { name := "fnExactPotentialAfter", fn := fun _ => fun
  | [d1, d2] => { results := [.lit (.bool true)], args := [d1, d2] }
  | _ => none }
def fnExactPotentialAfterRow : OpenClaim := { program := "ytdcgngeepbbikaa", sum := "19b870303a939a8eaf6d008ab6545029a3ca3ca18a48ad4a0f12591ec0af0781", func := "loop.example/g00905/laws.FnExactPotentialAfter", spec := "fnExactPotentialAfter", inPlace := ["internal/bytealg.abigen_runtime_cmpstring"], unfollowed := true, recurses := true, apart := false }
def FnExactPotentialAfterSaid : Prop := fnExactPotentialAfterRow.holds Try.pinned (OpenSpec.ofChange fnExactPotentialAfterSpec)

/-- ITS FALSE NEIGHBOUR: 'it returns false'. Refute it at one input. -/
def fnExactPotentialAfterWrong : ChangeSpec := { name := "fnExactPotentialAfter", fn := fun _ => fun
  | [d1, d2] => { results := [.lit (.bool false)], args := [d1, d2] }
  | _ => none }
def FnExactPotentialAfterWrongFalsely : Prop := fnExactPotentialAfterRow.holds Try.pinned (OpenSpec.ofChange fnExactPotentialAfterWrong)

/-- 'laws.FnBlocks': WHATEVER THE INPUT: true; the input reads as it did. -/
def fnBlocksSpec : ChangeSpec := { name := "fnBlocks", fn := fun _ => fun
  | [d] => { results := [.lit (.bool true)], args := [d] }
  | _ => none }
def fnBlocksRow : OpenClaim := { program := "ytdcgngeepbbikaa", sum := "19b870303a939a8eaf6d008ab6545029a3ca3ca18a48ad4a0f12591ec0af0781", func := "loop.example/g00905/laws.FnBlocks", spec := "fnBlocks", inPlace := ["internal/bytealg.abigen_runtime_cmpstring", "internal/abi.NoEscape"], unfollowed := true, recurses := true, apart := false }
def FnBlocksSaid : Prop := fnBlocksRow.holds Try.pinned (OpenSpec.ofChange fnBlocksSpec)

/-- ITS FALSE NEIGHBOUR: 'it returns false'. Refute it at one input. -/
def fnBlocksWrong : ChangeSpec := { name := "fnBlocks", fn := fun _ => fun
  | [d] => { results := [.lit (.bool false)], args := [d] }
  | _ => none }
def FnBlocksWrongFalsely : Prop := fnBlocksRow.holds Try.pinned (OpenSpec.ofChange fnBlocksWrong)

/-- 'laws.FnMemScan': WHATEVER THE INPUT: true; the input reads as it did. -/
def fnMemScanSpec : ChangeSpec := { name := "fnMemScan", fn := fun _ => fun
  | [d] => { results := [.lit (.bool true)], args := [d] }
  | _ => none }
def fnMemScanRow : OpenClaim := { program := "ytdcgngeepbbikaa", sum := "19b870303a939a8eaf6d008ab6545029a3ca3ca18a48ad4a0f12591ec0af0781", func := "loop.example/g00905/laws.FnMemScan", spec := "fnMemScan", inPlace := ["internal/bytealg.abigen_runtime_cmpstring", "internal/abi.NoEscape"], unfollowed := true, recurses := true, apart := false }
def FnMemScanSaid : Prop := fnMemScanRow.holds Try.pinned (OpenSpec.ofChange fnMemScanSpec)

/-- ITS FALSE NEIGHBOUR: 'it returns false'. Refute it at one input. -/
def fnMemScanWrong : ChangeSpec := { name := "fnMemScan", fn := fun _ => fun
  | [d] => { results := [.lit (.bool false)], args := [d] }
  | _ => none }
def FnMemScanWrongFalsely : Prop := fnMemScanRow.holds Try.pinned (OpenSpec.ofChange fnMemScanWrong)

/-- 'laws.FnFtlRecover': WHATEVER THE INPUT: true; the input reads as it did. -/
def fnFtlRecoverSpec : ChangeSpec := { name := "fnFtlRecover", fn := fun _ => fun
  | [d] => { results := [.lit (.bool true)], args := [d] }
  | _ => none }
def fnFtlRecoverRow : OpenClaim := { program := "ytdcgngeepbbikaa", sum := "19b870303a939a8eaf6d008ab6545029a3ca3ca18a48ad4a0f12591ec0af0781", func := "loop.example/g00905/laws.FnFtlRecover", spec := "fnFtlRecover", unfollowed := true, recurses := true, apart := false }
def FnFtlRecoverSaid : Prop := fnFtlRecoverRow.holds Try.pinned (OpenSpec.ofChange fnFtlRecoverSpec)

/-- ITS FALSE NEIGHBOUR: 'it returns false'. Refute it at one input. -/
def fnFtlRecoverWrong : ChangeSpec := { name := "fnFtlRecover", fn := fun _ => fun
  | [d] => { results := [.lit (.bool false)], args := [d] }
  | _ => none }
def FnFtlRecoverWrongFalsely : Prop := fnFtlRecoverRow.holds Try.pinned (OpenSpec.ofChange fnFtlRecoverWrong)

/- THE SECOND FORM. 'bulk': how many values and letters a reading holds, each counted each time it is reached (what is shared counts as often as it is met; a slice's spare places count too). A statement '..UptoSaid' is the law's where the arguments, and the package variables that the reading takes, are together of bulk at most 1048576: NARROWER than '..Said'. Prove '..Said' where nothing that the law and all that it calls make is longer than what came in: it says more and counts as full. Else prove '..UptoSaid'. A law counts once. -/
mutual
def uptoBulk {H : Type} : DataW H → Nat
  | .lit (.string bytes) => bytes.length + 1
  | .lit _ => 1
  | .nil => 1
  | .ptr d => uptoBulk d + 1
  | .slice elems spare => uptoBulkAll elems + uptoBulkAll spare + 1
  | .agg parts => uptoBulkAll parts + 1
  | .iface _ d => uptoBulk d + 1
  | .map entries => uptoBulkEntries entries + 1
  | .held _ => 1
def uptoBulkAll {H : Type} : List (DataW H) → Nat
  | [] => 0
  | d :: r => uptoBulk d + uptoBulkAll r
def uptoBulkEntries {H : Type} : List (Lit × DataW H) → Nat
  | [] => 0
  | x :: r => uptoBulkEntry x + uptoBulkEntries r
def uptoBulkEntry {H : Type} : Lit × DataW H → Nat
  | (.string bytes, d) => bytes.length + uptoBulk d + 1
  | (_, d) => uptoBulk d + 1
 end
def uptoSmall : (H : Type) → List (DataW H) → Bool := fun _ ds => decide (uptoBulkAll ds ≤ 1048576)
def OpenSpec.upto (s : _root_.Go.ChangeSpec) : _root_.Go.OpenSpec := { _root_.Go.OpenSpec.ofChange s with cond := some uptoSmall }

/-- 'laws.FnBloomNoMiss', WHERE WHAT IT READS IS OF BULK AT MOST 1048576: true; the input reads as it did. -/
def fnBloomNoMissUptoRow : OpenClaim := { program := "ytdcgngeepbbikaa", sum := "19b870303a939a8eaf6d008ab6545029a3ca3ca18a48ad4a0f12591ec0af0781", func := "loop.example/g00905/laws.FnBloomNoMiss", spec := "fnBloomNoMiss", inPlace := ["internal/abi.NoEscape", "internal/bytealg.MakeNoZero"], unfollowed := true, recurses := true, apart := false, narrowed := true }
def FnBloomNoMissUptoSaid : Prop := fnBloomNoMissUptoRow.holds Try.pinned (OpenSpec.upto fnBloomNoMissSpec)

/-- 'laws.FnExactPrefixOf', WHERE WHAT IT READS IS OF BULK AT MOST 1048576: true; the input reads as it did. -/
def fnExactPrefixOfUptoRow : OpenClaim := { program := "ytdcgngeepbbikaa", sum := "19b870303a939a8eaf6d008ab6545029a3ca3ca18a48ad4a0f12591ec0af0781", func := "loop.example/g00905/laws.FnExactPrefixOf", spec := "fnExactPrefixOf", inPlace := ["internal/bytealg.abigen_runtime_cmpstring", "slices.overlaps[loop.example/g00905/impl.Pair]"], unfollowed := true, recurses := true, apart := false, narrowed := true }
def FnExactPrefixOfUptoSaid : Prop := fnExactPrefixOfUptoRow.holds Try.pinned (OpenSpec.upto fnExactPrefixOfSpec)

/-- 'laws.FnRecordOrder', WHERE WHAT IT READS IS OF BULK AT MOST 1048576: true; the input reads as it did. -/
def fnRecordOrderUptoRow : OpenClaim := { program := "ytdcgngeepbbikaa", sum := "19b870303a939a8eaf6d008ab6545029a3ca3ca18a48ad4a0f12591ec0af0781", func := "loop.example/g00905/laws.FnRecordOrder", spec := "fnRecordOrder", inPlace := ["internal/bytealg.abigen_runtime_cmpstring"], unfollowed := true, recurses := true, apart := false, narrowed := true }
def FnRecordOrderUptoSaid : Prop := fnRecordOrderUptoRow.holds Try.pinned (OpenSpec.upto fnRecordOrderSpec)

/-- 'laws.FnMerge', WHERE WHAT IT READS IS OF BULK AT MOST 1048576: true; the input reads as it did. -/
def fnMergeUptoRow : OpenClaim := { program := "ytdcgngeepbbikaa", sum := "19b870303a939a8eaf6d008ab6545029a3ca3ca18a48ad4a0f12591ec0af0781", func := "loop.example/g00905/laws.FnMerge", spec := "fnMerge", inPlace := ["internal/bytealg.abigen_runtime_cmpstring"], unfollowed := true, recurses := true, apart := false, narrowed := true }
def FnMergeUptoSaid : Prop := fnMergeUptoRow.holds Try.pinned (OpenSpec.upto fnMergeSpec)

/-- 'laws.FnPrune', WHERE WHAT IT READS IS OF BULK AT MOST 1048576: true; the input reads as it did. -/
def fnPruneUptoRow : OpenClaim := { program := "ytdcgngeepbbikaa", sum := "19b870303a939a8eaf6d008ab6545029a3ca3ca18a48ad4a0f12591ec0af0781", func := "loop.example/g00905/laws.FnPrune", spec := "fnPrune", inPlace := ["internal/bytealg.abigen_runtime_cmpstring"], unfollowed := true, recurses := true, apart := false, narrowed := true }
def FnPruneUptoSaid : Prop := fnPruneUptoRow.holds Try.pinned (OpenSpec.upto fnPruneSpec)

/-- 'laws.FnRangeDel', WHERE WHAT IT READS IS OF BULK AT MOST 1048576: true; the input reads as it did. -/
def fnRangeDelUptoRow : OpenClaim := { program := "ytdcgngeepbbikaa", sum := "19b870303a939a8eaf6d008ab6545029a3ca3ca18a48ad4a0f12591ec0af0781", func := "loop.example/g00905/laws.FnRangeDel", spec := "fnRangeDel", inPlace := ["internal/bytealg.abigen_runtime_cmpstring"], unfollowed := true, recurses := true, apart := false, narrowed := true }
def FnRangeDelUptoSaid : Prop := fnRangeDelUptoRow.holds Try.pinned (OpenSpec.upto fnRangeDelSpec)

/-- 'laws.FnExactPotentialAfter', WHERE WHAT IT READS IS OF BULK AT MOST 1048576: true; the input reads as it did. -/
def fnExactPotentialAfterUptoRow : OpenClaim := { program := "ytdcgngeepbbikaa", sum := "19b870303a939a8eaf6d008ab6545029a3ca3ca18a48ad4a0f12591ec0af0781", func := "loop.example/g00905/laws.FnExactPotentialAfter", spec := "fnExactPotentialAfter", inPlace := ["internal/bytealg.abigen_runtime_cmpstring"], unfollowed := true, recurses := true, apart := false, narrowed := true }
def FnExactPotentialAfterUptoSaid : Prop := fnExactPotentialAfterUptoRow.holds Try.pinned (OpenSpec.upto fnExactPotentialAfterSpec)

/-- 'laws.FnBlocks', WHERE WHAT IT READS IS OF BULK AT MOST 1048576: true; the input reads as it did. -/
def fnBlocksUptoRow : OpenClaim := { program := "ytdcgngeepbbikaa", sum := "19b870303a939a8eaf6d008ab6545029a3ca3ca18a48ad4a0f12591ec0af0781", func := "loop.example/g00905/laws.FnBlocks", spec := "fnBlocks", inPlace := ["internal/bytealg.abigen_runtime_cmpstring", "internal/abi.NoEscape"], unfollowed := true, recurses := true, apart := false, narrowed := true }
def FnBlocksUptoSaid : Prop := fnBlocksUptoRow.holds Try.pinned (OpenSpec.upto fnBlocksSpec)

/-- 'laws.FnMemScan', WHERE WHAT IT READS IS OF BULK AT MOST 1048576: true; the input reads as it did. -/
def fnMemScanUptoRow : OpenClaim := { program := "ytdcgngeepbbikaa", sum := "19b870303a939a8eaf6d008ab6545029a3ca3ca18a48ad4a0f12591ec0af0781", func := "loop.example/g00905/laws.FnMemScan", spec := "fnMemScan", inPlace := ["internal/bytealg.abigen_runtime_cmpstring", "internal/abi.NoEscape"], unfollowed := true, recurses := true, apart := false, narrowed := true }
def FnMemScanUptoSaid : Prop := fnMemScanUptoRow.holds Try.pinned (OpenSpec.upto fnMemScanSpec)

/-- 'laws.FnFtlRecover', WHERE WHAT IT READS IS OF BULK AT MOST 1048576: true; the input reads as it did. -/
def fnFtlRecoverUptoRow : OpenClaim := { program := "ytdcgngeepbbikaa", sum := "19b870303a939a8eaf6d008ab6545029a3ca3ca18a48ad4a0f12591ec0af0781", func := "loop.example/g00905/laws.FnFtlRecover", spec := "fnFtlRecover", unfollowed := true, recurses := true, apart := false, narrowed := true }
def FnFtlRecoverUptoSaid : Prop := fnFtlRecoverUptoRow.holds Try.pinned (OpenSpec.upto fnFtlRecoverSpec)

end Rows
end Go.Proofs.Ytdcgngeepbbikaa

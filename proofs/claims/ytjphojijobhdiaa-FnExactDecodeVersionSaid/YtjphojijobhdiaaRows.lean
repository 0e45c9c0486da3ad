/-
  No cell of these rows narrows 'for every input' (looked for: loops, veiled, ifaces, maps, wideKeys, modest, calm, conditions, laid).
  DERIVED. THE GIVEN ROWS OF THIS SEAT. 12 by the template 'for every input the law returns true; each argument reads behind the call as it read before'; 0 by the template 'total and deterministic' (their statements: YtjphojijobhdiaaTotals.lean).
  GIVEN WITH THE SEED: the statements are not yours to turn. If you find one false, say at which input.
  Laid BY PROGRAM, IN A SANDBOX (cutbox-rows.mjs): the forced cells as the released guide's own fill.sh prints them over the translation 1ea2940fbd2687fb… (all of the seat's roots in one cut). By AI agents, Wed Nov 11 2026. No macro, syntax, notation, axiom, sorry.
-/
import Derived.Test.YtjphojijobhdiaaChecked
import GoSem.Claim
import GoSem.ClaimJoined
import GoSem.ClaimMapViews
import Derived.JoinedTies
import Derived.KernelRfl
namespace Go.Proofs.Ytjphojijobhdiaa
/- THE CELL 'sum', in the pinned program and in every row, IS THE sha256 OF THE DUMP (.gsa) THAT YtjphojijobhdiaaProg.lean LOADS. Nothing in Lean hashes anything: it is a label: what it is worth is what the hold of that sum in a sandbox is worth. -/
noncomputable def Try.pinned : Pinned := { name := "ytjphojijobhdiaa", sum := "1ea2940fbd2687fb1b69a43766ad86b4c0c0d6182e9a028f3f7dd2a0a5fc535f", checked := Try.checked }
namespace Rows
def none {H : Type} : Left H := { results := [], args := [] }

/-- 'laws.FnVisible': WHATEVER THE INPUT: true; the input reads as it did. -/
def fnVisibleSpec : ChangeSpec := { name := "fnVisible", fn := fun _ => fun
  | [d] => { results := [.lit (.bool true)], args := [d] }
  | _ => none }
def fnVisibleRow : OpenClaim := { program := "ytjphojijobhdiaa", sum := "1ea2940fbd2687fb1b69a43766ad86b4c0c0d6182e9a028f3f7dd2a0a5fc535f", func := "loop.example/g00905/laws.FnVisible", spec := "fnVisible", inPlace := ["internal/bytealg.abigen_runtime_cmpstring", "slices.overlaps[loop.example/g00905/impl.Pair]"], unfollowed := true, recurses := true, apart := false }
def FnVisibleSaid : Prop := fnVisibleRow.holds Try.pinned (OpenSpec.ofChange fnVisibleSpec)

/-- ITS FALSE NEIGHBOUR: 'it returns false'. Refute it at one input. -/
def fnVisibleWrong : ChangeSpec := { name := "fnVisible", fn := fun _ => fun
  | [d] => { results := [.lit (.bool false)], args := [d] }
  | _ => none }
def FnVisibleWrongFalsely : Prop := fnVisibleRow.holds Try.pinned (OpenSpec.ofChange fnVisibleWrong)

/-- 'laws.FnExactStatesAfter': WHATEVER THE INPUT: true; the input reads as it did. -/
def fnExactStatesAfterSpec : ChangeSpec := { name := "fnExactStatesAfter", fn := fun _ => fun
  | [d1, d2] => { results := [.lit (.bool true)], args := [d1, d2] }
  | _ => none }
def fnExactStatesAfterRow : OpenClaim := { program := "ytjphojijobhdiaa", sum := "1ea2940fbd2687fb1b69a43766ad86b4c0c0d6182e9a028f3f7dd2a0a5fc535f", func := "loop.example/g00905/laws.FnExactStatesAfter", spec := "fnExactStatesAfter", inPlace := ["internal/bytealg.abigen_runtime_cmpstring", "slices.overlaps[loop.example/g00905/impl.Pair]"], unfollowed := true, recurses := true, apart := false }
def FnExactStatesAfterSaid : Prop := fnExactStatesAfterRow.holds Try.pinned (OpenSpec.ofChange fnExactStatesAfterSpec)

/-- ITS FALSE NEIGHBOUR: 'it returns false'. Refute it at one input. -/
def fnExactStatesAfterWrong : ChangeSpec := { name := "fnExactStatesAfter", fn := fun _ => fun
  | [d1, d2] => { results := [.lit (.bool false)], args := [d1, d2] }
  | _ => none }
def FnExactStatesAfterWrongFalsely : Prop := fnExactStatesAfterRow.holds Try.pinned (OpenSpec.ofChange fnExactStatesAfterWrong)

/-- 'laws.FnExactPrefixOf': WHATEVER THE INPUT: true; the input reads as it did. -/
def fnExactPrefixOfSpec : ChangeSpec := { name := "fnExactPrefixOf", fn := fun _ => fun
  | [d1, d2] => { results := [.lit (.bool true)], args := [d1, d2] }
  | _ => none }
def fnExactPrefixOfRow : OpenClaim := { program := "ytjphojijobhdiaa", sum := "1ea2940fbd2687fb1b69a43766ad86b4c0c0d6182e9a028f3f7dd2a0a5fc535f", func := "loop.example/g00905/laws.FnExactPrefixOf", spec := "fnExactPrefixOf", inPlace := ["internal/bytealg.abigen_runtime_cmpstring", "slices.overlaps[loop.example/g00905/impl.Pair]"], unfollowed := true, recurses := true, apart := false }
def FnExactPrefixOfSaid : Prop := fnExactPrefixOfRow.holds Try.pinned (OpenSpec.ofChange fnExactPrefixOfSpec)

/-- ITS FALSE NEIGHBOUR: 'it returns false'. Refute it at one input. -/
def fnExactPrefixOfWrong : ChangeSpec := { name := "fnExactPrefixOf", fn := fun _ => fun
  | [d1, d2] => { results := [.lit (.bool false)], args := [d1, d2] }
  | _ => none }
def FnExactPrefixOfWrongFalsely : Prop := fnExactPrefixOfRow.holds Try.pinned (OpenSpec.ofChange fnExactPrefixOfWrong)

/-- 'laws.FnExactDecodeEdit': WHATEVER THE INPUT: true; the input reads as it did. -/
def fnExactDecodeEditSpec : ChangeSpec := { name := "fnExactDecodeEdit", fn := fun _ => fun
  | [d] => { results := [.lit (.bool true)], args := [d] }
  | _ => none }
def fnExactDecodeEditRow : OpenClaim := { program := "ytjphojijobhdiaa", sum := "1ea2940fbd2687fb1b69a43766ad86b4c0c0d6182e9a028f3f7dd2a0a5fc535f", func := "loop.example/g00905/laws.FnExactDecodeEdit", spec := "fnExactDecodeEdit", unfollowed := true, recurses := true, apart := false }
def FnExactDecodeEditSaid : Prop := fnExactDecodeEditRow.holds Try.pinned (OpenSpec.ofChange fnExactDecodeEditSpec)

/-- ITS FALSE NEIGHBOUR: 'it returns false'. Refute it at one input. -/
def fnExactDecodeEditWrong : ChangeSpec := { name := "fnExactDecodeEdit", fn := fun _ => fun
  | [d] => { results := [.lit (.bool false)], args := [d] }
  | _ => none }
def FnExactDecodeEditWrongFalsely : Prop := fnExactDecodeEditRow.holds Try.pinned (OpenSpec.ofChange fnExactDecodeEditWrong)

/-- 'laws.FnExactDecodeVersion': WHATEVER THE INPUT: true; the input reads as it did. -/
def fnExactDecodeVersionSpec : ChangeSpec := { name := "fnExactDecodeVersion", fn := fun _ => fun
  | [d] => { results := [.lit (.bool true)], args := [d] }
  | _ => none }
def fnExactDecodeVersionRow : OpenClaim := { program := "ytjphojijobhdiaa", sum := "1ea2940fbd2687fb1b69a43766ad86b4c0c0d6182e9a028f3f7dd2a0a5fc535f", func := "loop.example/g00905/laws.FnExactDecodeVersion", spec := "fnExactDecodeVersion", inPlace := ["internal/bytealg.abigen_runtime_cmpstring"], unfollowed := true, recurses := true, apart := false }
def FnExactDecodeVersionSaid : Prop := fnExactDecodeVersionRow.holds Try.pinned (OpenSpec.ofChange fnExactDecodeVersionSpec)

/-- ITS FALSE NEIGHBOUR: 'it returns false'. Refute it at one input. -/
def fnExactDecodeVersionWrong : ChangeSpec := { name := "fnExactDecodeVersion", fn := fun _ => fun
  | [d] => { results := [.lit (.bool false)], args := [d] }
  | _ => none }
def FnExactDecodeVersionWrongFalsely : Prop := fnExactDecodeVersionRow.holds Try.pinned (OpenSpec.ofChange fnExactDecodeVersionWrong)

/-- 'laws.FnFtlRecover': WHATEVER THE INPUT: true; the input reads as it did. -/
def fnFtlRecoverSpec : ChangeSpec := { name := "fnFtlRecover", fn := fun _ => fun
  | [d] => { results := [.lit (.bool true)], args := [d] }
  | _ => none }
def fnFtlRecoverRow : OpenClaim := { program := "ytjphojijobhdiaa", sum := "1ea2940fbd2687fb1b69a43766ad86b4c0c0d6182e9a028f3f7dd2a0a5fc535f", func := "loop.example/g00905/laws.FnFtlRecover", spec := "fnFtlRecover", unfollowed := true, recurses := true, apart := false }
def FnFtlRecoverSaid : Prop := fnFtlRecoverRow.holds Try.pinned (OpenSpec.ofChange fnFtlRecoverSpec)

/-- ITS FALSE NEIGHBOUR: 'it returns false'. Refute it at one input. -/
def fnFtlRecoverWrong : ChangeSpec := { name := "fnFtlRecover", fn := fun _ => fun
  | [d] => { results := [.lit (.bool false)], args := [d] }
  | _ => none }
def FnFtlRecoverWrongFalsely : Prop := fnFtlRecoverRow.holds Try.pinned (OpenSpec.ofChange fnFtlRecoverWrong)

/-- 'laws.FnRecordOrder': WHATEVER THE INPUT: true; the input reads as it did. -/
def fnRecordOrderSpec : ChangeSpec := { name := "fnRecordOrder", fn := fun _ => fun
  | [d] => { results := [.lit (.bool true)], args := [d] }
  | _ => none }
def fnRecordOrderRow : OpenClaim := { program := "ytjphojijobhdiaa", sum := "1ea2940fbd2687fb1b69a43766ad86b4c0c0d6182e9a028f3f7dd2a0a5fc535f", func := "loop.example/g00905/laws.FnRecordOrder", spec := "fnRecordOrder", inPlace := ["internal/bytealg.abigen_runtime_cmpstring"], unfollowed := true, recurses := true, apart := false }
def FnRecordOrderSaid : Prop := fnRecordOrderRow.holds Try.pinned (OpenSpec.ofChange fnRecordOrderSpec)

/-- ITS FALSE NEIGHBOUR: 'it returns false'. Refute it at one input. -/
def fnRecordOrderWrong : ChangeSpec := { name := "fnRecordOrder", fn := fun _ => fun
  | [d] => { results := [.lit (.bool false)], args := [d] }
  | _ => none }
def FnRecordOrderWrongFalsely : Prop := fnRecordOrderRow.holds Try.pinned (OpenSpec.ofChange fnRecordOrderWrong)

/-- 'laws.FnMerge': WHATEVER THE INPUT: true; the input reads as it did. -/
def fnMergeSpec : ChangeSpec := { name := "fnMerge", fn := fun _ => fun
  | [d] => { results := [.lit (.bool true)], args := [d] }
  | _ => none }
def fnMergeRow : OpenClaim := { program := "ytjphojijobhdiaa", sum := "1ea2940fbd2687fb1b69a43766ad86b4c0c0d6182e9a028f3f7dd2a0a5fc535f", func := "loop.example/g00905/laws.FnMerge", spec := "fnMerge", inPlace := ["internal/bytealg.abigen_runtime_cmpstring"], unfollowed := true, recurses := true, apart := false }
def FnMergeSaid : Prop := fnMergeRow.holds Try.pinned (OpenSpec.ofChange fnMergeSpec)

/-- ITS FALSE NEIGHBOUR: 'it returns false'. Refute it at one input. -/
def fnMergeWrong : ChangeSpec := { name := "fnMerge", fn := fun _ => fun
  | [d] => { results := [.lit (.bool false)], args := [d] }
  | _ => none }
def FnMergeWrongFalsely : Prop := fnMergeRow.holds Try.pinned (OpenSpec.ofChange fnMergeWrong)

/-- 'laws.FnPrune': WHATEVER THE INPUT: true; the input reads as it did. -/
def fnPruneSpec : ChangeSpec := { name := "fnPrune", fn := fun _ => fun
  | [d] => { results := [.lit (.bool true)], args := [d] }
  | _ => none }
def fnPruneRow : OpenClaim := { program := "ytjphojijobhdiaa", sum := "1ea2940fbd2687fb1b69a43766ad86b4c0c0d6182e9a028f3f7dd2a0a5fc535f", func := "loop.example/g00905/laws.FnPrune", spec := "fnPrune", inPlace := ["internal/bytealg.abigen_runtime_cmpstring"], unfollowed := true, recurses := true, apart := false }
def FnPruneSaid : Prop := fnPruneRow.holds Try.pinned (OpenSpec.ofChange fnPruneSpec)

/-- ITS FALSE NEIGHBOUR: 'it returns false'. Refute it at one input. -/
def fnPruneWrong : ChangeSpec := { name := "fnPrune", fn := fun _ => fun
  | [d] => { results := [.lit (.bool false)], args := [d] }
  | _ => none }
def FnPruneWrongFalsely : Prop := fnPruneRow.holds Try.pinned (OpenSpec.ofChange fnPruneWrong)

/-- 'laws.FnRangeDel': WHATEVER THE INPUT: true; the input reads as it did. -/
def fnRangeDelSpec : ChangeSpec := { name := "fnRangeDel", fn := fun _ => fun
  | [d] => { results := [.lit (.bool true)], args := [d] }
  | _ => none }
def fnRangeDelRow : OpenClaim := { program := "ytjphojijobhdiaa", sum := "1ea2940fbd2687fb1b69a43766ad86b4c0c0d6182e9a028f3f7dd2a0a5fc535f", func := "loop.example/g00905/laws.FnRangeDel", spec := "fnRangeDel", inPlace := ["internal/bytealg.abigen_runtime_cmpstring"], unfollowed := true, recurses := true, apart := false }
def FnRangeDelSaid : Prop := fnRangeDelRow.holds Try.pinned (OpenSpec.ofChange fnRangeDelSpec)

/-- ITS FALSE NEIGHBOUR: 'it returns false'. Refute it at one input. -/
def fnRangeDelWrong : ChangeSpec := { name := "fnRangeDel", fn := fun _ => fun
  | [d] => { results := [.lit (.bool false)], args := [d] }
  | _ => none }
def FnRangeDelWrongFalsely : Prop := fnRangeDelRow.holds Try.pinned (OpenSpec.ofChange fnRangeDelWrong)

/-- 'laws.FnCodec': WHATEVER THE INPUT: true; the input reads as it did. -/
def fnCodecSpec : ChangeSpec := { name := "fnCodec", fn := fun _ => fun
  | [d1, d2] => { results := [.lit (.bool true)], args := [d1, d2] }
  | _ => none }
def fnCodecRow : OpenClaim := { program := "ytjphojijobhdiaa", sum := "1ea2940fbd2687fb1b69a43766ad86b4c0c0d6182e9a028f3f7dd2a0a5fc535f", func := "loop.example/g00905/laws.FnCodec", spec := "fnCodec", apart := false }
def FnCodecSaid : Prop := fnCodecRow.holds Try.pinned (OpenSpec.ofChange fnCodecSpec)

/-- ITS FALSE NEIGHBOUR: 'it returns false'. Refute it at one input. -/
def fnCodecWrong : ChangeSpec := { name := "fnCodec", fn := fun _ => fun
  | [d1, d2] => { results := [.lit (.bool false)], args := [d1, d2] }
  | _ => none }
def FnCodecWrongFalsely : Prop := fnCodecRow.holds Try.pinned (OpenSpec.ofChange fnCodecWrong)

/-- 'laws.FnBloomNoMiss': WHATEVER THE INPUT: true; the input reads as it did. -/
def fnBloomNoMissSpec : ChangeSpec := { name := "fnBloomNoMiss", fn := fun _ => fun
  | [d] => { results := [.lit (.bool true)], args := [d] }
  | _ => none }
def fnBloomNoMissRow : OpenClaim := { program := "ytjphojijobhdiaa", sum := "1ea2940fbd2687fb1b69a43766ad86b4c0c0d6182e9a028f3f7dd2a0a5fc535f", func := "loop.example/g00905/laws.FnBloomNoMiss", spec := "fnBloomNoMiss", inPlace := ["internal/abi.NoEscape", "internal/bytealg.MakeNoZero"], unfollowed := true, recurses := true, apart := false }
def FnBloomNoMissSaid : Prop := fnBloomNoMissRow.holds Try.pinned (OpenSpec.ofChange fnBloomNoMissSpec)

/-- ITS FALSE NEIGHBOUR: 'it returns false'. Refute it at one input. -/
def fnBloomNoMissWrong : ChangeSpec := { name := "fnBloomNoMiss", fn := fun _ => fun
  | [d] => { results := [.lit (.bool false)], args := [d] }
  | _ => none }
def FnBloomNoMissWrongFalsely : Prop := fnBloomNoMissRow.holds Try.pinned (OpenSpec.ofChange fnBloomNoMissWrong)

/- THE SECOND FORM. 'bulk': how many values and letters a reading holds, each counted each time it is reached (what is shared counts as often as it is met; a slice's spare places count too). A statement '..UptoSaid' is the law's where the arguments, and the package variables that the reading takes, are together of bulk at most 1048576: NARROWER than '..Said'. Prove '..Said' where nothing that the law and all that it calls make is longer than what came in: it says more and counts as full. Else prove '..UptoSaid'. A law counts once. -/
mutual
def uptoBulk {H : Type} : DataW H → Nat
  | .lit (.string bytes) => bytes.length + 1
  | .lit _ => 1
  | .nil => 1
  | .ptr d => uptoBulk d + 1
  | .slice elems spare => uptoBulkAll elems + uptoBulkAll spare + 1
  | .agg parts => uptoBulkAll parts + 1
  | .iface _ d => uptoBulk d + 1
  | .map entries => uptoBulkEntries entries + 1
  | .held _ => 1
def uptoBulkAll {H : Type} : List (DataW H) → Nat
  | [] => 0
  | d :: r => uptoBulk d + uptoBulkAll r
def uptoBulkEntries {H : Type} : List (Lit × DataW H) → Nat
  | [] => 0
  | x :: r => uptoBulkEntry x + uptoBulkEntries r
def uptoBulkEntry {H : Type} : Lit × DataW H → Nat
  | (.string bytes, d) => bytes.length + uptoBulk d + 1
  | (_, d) => uptoBulk d + 1
 end
def uptoSmall : (H : Type) → List (DataW H) → Bool := fun _ ds => decide (uptoBulkAll ds ≤ 1048576)
def OpenSpec.upto (s : _root_.Go.ChangeSpec) : _root_.Go.OpenSpec := { _root_.Go.OpenSpec.ofChange s with cond := some uptoSmall }

/-- 'laws.FnVisible', WHERE WHAT IT READS IS OF BULK AT MOST 1048576: true; the input reads as it did. -/
def fnVisibleUptoRow : OpenClaim := { program := "ytjphojijobhdiaa", sum := "1ea2940fbd2687fb1b69a43766ad86b4c0c0d6182e9a028f3f7dd2a0a5fc535f", func := "loop.example/g00905/laws.FnVisible", spec := "fnVisible", inPlace := ["internal/bytealg.abigen_runtime_cmpstring", "slices.overlaps[loop.example/g00905/impl.Pair]"], unfollowed := true, recurses := true, apart := false, narrowed := true }
def FnVisibleUptoSaid : Prop := fnVisibleUptoRow.holds Try.pinned (OpenSpec.upto fnVisibleSpec)

/-- 'laws.FnExactStatesAfter', WHERE WHAT IT READS IS OF BULK AT MOST 1048576: true; the input reads as it did. -/
def fnExactStatesAfterUptoRow : OpenClaim := { program := "ytjphojijobhdiaa", sum := "1ea2940fbd2687fb1b69a43766ad86b4c0c0d6182e9a028f3f7dd2a0a5fc535f", func := "loop.example/g00905/laws.FnExactStatesAfter", spec := "fnExactStatesAfter", inPlace := ["internal/bytealg.abigen_runtime_cmpstring", "slices.overlaps[loop.example/g00905/impl.Pair]"], unfollowed := true, recurses := true, apart := false, narrowed := true }
def FnExactStatesAfterUptoSaid : Prop := fnExactStatesAfterUptoRow.holds Try.pinned (OpenSpec.upto fnExactStatesAfterSpec)

/-- 'laws.FnExactPrefixOf', WHERE WHAT IT READS IS OF BULK AT MOST 1048576: true; the input reads as it did. -/
def fnExactPrefixOfUptoRow : OpenClaim := { program := "ytjphojijobhdiaa", sum := "1ea2940fbd2687fb1b69a43766ad86b4c0c0d6182e9a028f3f7dd2a0a5fc535f", func := "loop.example/g00905/laws.FnExactPrefixOf", spec := "fnExactPrefixOf", inPlace := ["internal/bytealg.abigen_runtime_cmpstring", "slices.overlaps[loop.example/g00905/impl.Pair]"], unfollowed := true, recurses := true, apart := false, narrowed := true }
def FnExactPrefixOfUptoSaid : Prop := fnExactPrefixOfUptoRow.holds Try.pinned (OpenSpec.upto fnExactPrefixOfSpec)

/-- 'laws.FnExactDecodeEdit', WHERE WHAT IT READS IS OF BULK AT MOST 1048576: true; the input reads as it did. -/
def fnExactDecodeEditUptoRow : OpenClaim := { program := "ytjphojijobhdiaa", sum := "1ea2940fbd2687fb1b69a43766ad86b4c0c0d6182e9a028f3f7dd2a0a5fc535f", func := "loop.example/g00905/laws.FnExactDecodeEdit", spec := "fnExactDecodeEdit", unfollowed := true, recurses := true, apart := false, narrowed := true }
def FnExactDecodeEditUptoSaid : Prop := fnExactDecodeEditUptoRow.holds Try.pinned (OpenSpec.upto fnExactDecodeEditSpec)

/-- 'laws.FnExactDecodeVersion', WHERE WHAT IT READS IS OF BULK AT MOST 1048576: true; the input reads as it did. -/
def fnExactDecodeVersionUptoRow : OpenClaim := { program := "ytjphojijobhdiaa", sum := "1ea2940fbd2687fb1b69a43766ad86b4c0c0d6182e9a028f3f7dd2a0a5fc535f", func := "loop.example/g00905/laws.FnExactDecodeVersion", spec := "fnExactDecodeVersion", inPlace := ["internal/bytealg.abigen_runtime_cmpstring"], unfollowed := true, recurses := true, apart := false, narrowed := true }
def FnExactDecodeVersionUptoSaid : Prop := fnExactDecodeVersionUptoRow.holds Try.pinned (OpenSpec.upto fnExactDecodeVersionSpec)

/-- 'laws.FnFtlRecover', WHERE WHAT IT READS IS OF BULK AT MOST 1048576: true; the input reads as it did. -/
def fnFtlRecoverUptoRow : OpenClaim := { program := "ytjphojijobhdiaa", sum := "1ea2940fbd2687fb1b69a43766ad86b4c0c0d6182e9a028f3f7dd2a0a5fc535f", func := "loop.example/g00905/laws.FnFtlRecover", spec := "fnFtlRecover", unfollowed := true, recurses := true, apart := false, narrowed := true }
def FnFtlRecoverUptoSaid : Prop := fnFtlRecoverUptoRow.holds Try.pinned (OpenSpec.upto fnFtlRecoverSpec)

/-- 'laws.FnRecordOrder', WHERE WHAT IT READS IS OF BULK AT MOST 1048576: true; the input reads as it did. -/
def fnRecordOrderUptoRow : OpenClaim := { program := "ytjphojijobhdiaa", sum := "1ea2940fbd2687fb1b69a43766ad86b4c0c0d6182e9a028f3f7dd2a0a5fc535f", func := "loop.example/g00905/laws.FnRecordOrder", spec := "fnRecordOrder", inPlace := ["internal/bytealg.abigen_runtime_cmpstring"], unfollowed := true, recurses := true, apart := false, narrowed := true }
def FnRecordOrderUptoSaid : Prop := fnRecordOrderUptoRow.holds Try.pinned (OpenSpec.upto fnRecordOrderSpec)

/-- 'laws.FnMerge', WHERE WHAT IT READS IS OF BULK AT MOST 1048576: true; the input reads as it did. -/
def fnMergeUptoRow : OpenClaim := { program := "ytjphojijobhdiaa", sum := "1ea2940fbd2687fb1b69a43766ad86b4c0c0d6182e9a028f3f7dd2a0a5fc535f", func := "loop.example/g00905/laws.FnMerge", spec := "fnMerge", inPlace := ["internal/bytealg.abigen_runtime_cmpstring"], unfollowed := true, recurses := true, apart := false, narrowed := true }
def FnMergeUptoSaid : Prop := fnMergeUptoRow.holds Try.pinned (OpenSpec.upto fnMergeSpec)

/-- 'laws.FnPrune', WHERE WHAT IT READS IS OF BULK AT MOST 1048576: true; the input reads as it did. -/
def fnPruneUptoRow : OpenClaim := { program := "ytjphojijobhdiaa", sum := "1ea2940fbd2687fb1b69a43766ad86b4c0c0d6182e9a028f3f7dd2a0a5fc535f", func := "loop.example/g00905/laws.FnPrune", spec := "fnPrune", inPlace := ["internal/bytealg.abigen_runtime_cmpstring"], unfollowed := true, recurses := true, apart := false, narrowed := true }
def FnPruneUptoSaid : Prop := fnPruneUptoRow.holds Try.pinned (OpenSpec.upto fnPruneSpec)

/-- 'laws.FnRangeDel', WHERE WHAT IT READS IS OF BULK AT MOST 1048576: true; the input reads as it did. -/
def fnRangeDelUptoRow : OpenClaim := { program := "ytjphojijobhdiaa", sum := "1ea2940fbd2687fb1b69a43766ad86b4c0c0d6182e9a028f3f7dd2a0a5fc535f", func := "loop.example/g00905/laws.FnRangeDel", spec := "fnRangeDel", inPlace := ["internal/bytealg.abigen_runtime_cmpstring"], unfollowed := true, recurses := true, apart := false, narrowed := true }
def FnRangeDelUptoSaid : Prop := fnRangeDelUptoRow.holds Try.pinned (OpenSpec.upto fnRangeDelSpec)

/-- 'laws.FnCodec', WHERE WHAT IT READS IS OF BULK AT MOST 1048576: true; the input reads as it did. -/
def fnCodecUptoRow : OpenClaim := { program := "ytjphojijobhdiaa", sum := "1ea2940fbd2687fb1b69a43766ad86b4c0c0d6182e9a028f3f7dd2a0a5fc535f", func := "loop.example/g00905/laws.FnCodec", spec := "fnCodec", apart := false, narrowed := true }
def FnCodecUptoSaid : Prop := fnCodecUptoRow.holds Try.pinned (OpenSpec.upto fnCodecSpec)

/-- 'laws.FnBloomNoMiss', WHERE WHAT IT READS IS OF BULK AT MOST 1048576: true; the input reads as it did. -/
def fnBloomNoMissUptoRow : OpenClaim := { program := "ytjphojijobhdiaa", sum := "1ea2940fbd2687fb1b69a43766ad86b4c0c0d6182e9a028f3f7dd2a0a5fc535f", func := "loop.example/g00905/laws.FnBloomNoMiss", spec := "fnBloomNoMiss", inPlace := ["internal/abi.NoEscape", "internal/bytealg.MakeNoZero"], unfollowed := true, recurses := true, apart := false, narrowed := true }
def FnBloomNoMissUptoSaid : Prop := fnBloomNoMissUptoRow.holds Try.pinned (OpenSpec.upto fnBloomNoMissSpec)

end Rows
end Go.Proofs.Ytjphojijobhdiaa

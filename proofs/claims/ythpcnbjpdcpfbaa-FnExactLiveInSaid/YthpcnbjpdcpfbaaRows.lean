/-
  No cell of these rows narrows 'for every input' (looked for: loops, veiled, ifaces, maps, wideKeys, modest, calm, conditions, laid).
  DERIVED. THE GIVEN ROWS OF THIS SEAT. 12 by the template 'for every input the law returns true; each argument reads behind the call as it read before'; 0 by the template 'total and deterministic' (their statements: YthpcnbjpdcpfbaaTotals.lean).
  GIVEN WITH THE SEED: the statements are not yours to turn. If you find one false, say at which input.
  Laid BY PROGRAM, IN A SANDBOX (cutbox-rows.mjs): the forced cells as the released guide's own fill.sh prints them over the translation ad079d0548a26bdb… (all of the seat's roots in one cut). By AI agents, Wed Nov 11 2026. No macro, syntax, notation, axiom, sorry.
-/
import Derived.Test.YthpcnbjpdcpfbaaChecked
import GoSem.Claim
import GoSem.ClaimJoined
import GoSem.ClaimMapViews
import Derived.JoinedTies
import Derived.KernelRfl
namespace Go.Proofs.Ythpcnbjpdcpfbaa
/- THE CELL 'sum', in the pinned program and in every row, IS THE sha256 OF THE DUMP (.gsa) THAT YthpcnbjpdcpfbaaProg.lean LOADS. Nothing in Lean hashes anything: it is a label: what it is worth is what the hold of that sum in a sandbox is worth. -/
noncomputable def Try.pinned : Pinned := { name := "ythpcnbjpdcpfbaa", sum := "ad079d0548a26bdb877006373fc03b7110e43296ed1df8886f55499dd3fa6620", checked := Try.checked }
namespace Rows
def none {H : Type} : Left H := { results := [], args := [] }

/-- 'laws.FnExactLivePages': WHATEVER THE INPUT: true; the input reads as it did. -/
def fnExactLivePagesSpec : ChangeSpec := { name := "fnExactLivePages", fn := fun _ => fun
  | [d1, d2] => { results := [.lit (.bool true)], args := [d1, d2] }
  | _ => none }
def fnExactLivePagesRow : OpenClaim := { program := "ythpcnbjpdcpfbaa", sum := "ad079d0548a26bdb877006373fc03b7110e43296ed1df8886f55499dd3fa6620", func := "loop.example/g00905/laws.FnExactLivePages", spec := "fnExactLivePages", apart := false }
def FnExactLivePagesSaid : Prop := fnExactLivePagesRow.holds Try.pinned (OpenSpec.ofChange fnExactLivePagesSpec)

/-- ITS FALSE NEIGHBOUR: 'it returns false'. Refute it at one input. -/
def fnExactLivePagesWrong : ChangeSpec := { name := "fnExactLivePages", fn := fun _ => fun
  | [d1, d2] => { results := [.lit (.bool false)], args := [d1, d2] }
  | _ => none }
def FnExactLivePagesWrongFalsely : Prop := fnExactLivePagesRow.holds Try.pinned (OpenSpec.ofChange fnExactLivePagesWrong)

/-- 'laws.FnStreams': WHATEVER THE INPUT: true; the input reads as it did. -/
def fnStreamsSpec : ChangeSpec := { name := "fnStreams", fn := fun _ => fun
  | [d] => { results := [.lit (.bool true)], args := [d] }
  | _ => none }
def fnStreamsRow : OpenClaim := { program := "ythpcnbjpdcpfbaa", sum := "ad079d0548a26bdb877006373fc03b7110e43296ed1df8886f55499dd3fa6620", func := "loop.example/g00905/laws.FnStreams", spec := "fnStreams", unfollowed := true, recurses := true, apart := false }
def FnStreamsSaid : Prop := fnStreamsRow.holds Try.pinned (OpenSpec.ofChange fnStreamsSpec)

/-- ITS FALSE NEIGHBOUR: 'it returns false'. Refute it at one input. -/
def fnStreamsWrong : ChangeSpec := { name := "fnStreams", fn := fun _ => fun
  | [d] => { results := [.lit (.bool false)], args := [d] }
  | _ => none }
def FnStreamsWrongFalsely : Prop := fnStreamsRow.holds Try.pinned (OpenSpec.ofChange fnStreamsWrong)

/-- 'laws.FnExactLiveIn': WHATEVER THE INPUT: true; the input reads as it did. -/
def fnExactLiveInSpec : ChangeSpec := { name := "fnExactLiveIn", fn := fun _ => fun
  | [d1, d2] => { results := [.lit (.bool true)], args := [d1, d2] }
  | _ => none }
def fnExactLiveInRow : OpenClaim := { program := "ythpcnbjpdcpfbaa", sum := "ad079d0548a26bdb877006373fc03b7110e43296ed1df8886f55499dd3fa6620", func := "loop.example/g00905/laws.FnExactLiveIn", spec := "fnExactLiveIn", apart := false }
def FnExactLiveInSaid : Prop := fnExactLiveInRow.holds Try.pinned (OpenSpec.ofChange fnExactLiveInSpec)

/-- ITS FALSE NEIGHBOUR: 'it returns false'. Refute it at one input. -/
def fnExactLiveInWrong : ChangeSpec := { name := "fnExactLiveIn", fn := fun _ => fun
  | [d1, d2] => { results := [.lit (.bool false)], args := [d1, d2] }
  | _ => none }
def FnExactLiveInWrongFalsely : Prop := fnExactLiveInRow.holds Try.pinned (OpenSpec.ofChange fnExactLiveInWrong)

/-- 'laws.FnExactEraseTotal': WHATEVER THE INPUT: true; the input reads as it did. -/
def fnExactEraseTotalSpec : ChangeSpec := { name := "fnExactEraseTotal", fn := fun _ => fun
  | [d] => { results := [.lit (.bool true)], args := [d] }
  | _ => none }
def fnExactEraseTotalRow : OpenClaim := { program := "ythpcnbjpdcpfbaa", sum := "ad079d0548a26bdb877006373fc03b7110e43296ed1df8886f55499dd3fa6620", func := "loop.example/g00905/laws.FnExactEraseTotal", spec := "fnExactEraseTotal", unfollowed := true, recurses := true, apart := false }
def FnExactEraseTotalSaid : Prop := fnExactEraseTotalRow.holds Try.pinned (OpenSpec.ofChange fnExactEraseTotalSpec)

/-- ITS FALSE NEIGHBOUR: 'it returns false'. Refute it at one input. -/
def fnExactEraseTotalWrong : ChangeSpec := { name := "fnExactEraseTotal", fn := fun _ => fun
  | [d] => { results := [.lit (.bool false)], args := [d] }
  | _ => none }
def FnExactEraseTotalWrongFalsely : Prop := fnExactEraseTotalRow.holds Try.pinned (OpenSpec.ofChange fnExactEraseTotalWrong)

/-- 'laws.FnExactValidTrial': WHATEVER THE INPUT: true; the input reads as it did. -/
def fnExactValidTrialSpec : ChangeSpec := { name := "fnExactValidTrial", fn := fun _ => fun
  | [d] => { results := [.lit (.bool true)], args := [d] }
  | _ => none }
def fnExactValidTrialRow : OpenClaim := { program := "ythpcnbjpdcpfbaa", sum := "ad079d0548a26bdb877006373fc03b7110e43296ed1df8886f55499dd3fa6620", func := "loop.example/g00905/laws.FnExactValidTrial", spec := "fnExactValidTrial", unfollowed := true, recurses := true, apart := false }
def FnExactValidTrialSaid : Prop := fnExactValidTrialRow.holds Try.pinned (OpenSpec.ofChange fnExactValidTrialSpec)

/-- ITS FALSE NEIGHBOUR: 'it returns false'. Refute it at one input. -/
def fnExactValidTrialWrong : ChangeSpec := { name := "fnExactValidTrial", fn := fun _ => fun
  | [d] => { results := [.lit (.bool false)], args := [d] }
  | _ => none }
def FnExactValidTrialWrongFalsely : Prop := fnExactValidTrialRow.holds Try.pinned (OpenSpec.ofChange fnExactValidTrialWrong)

/-- 'laws.FnExactEraseSpread': WHATEVER THE INPUT: true; the input reads as it did. -/
def fnExactEraseSpreadSpec : ChangeSpec := { name := "fnExactEraseSpread", fn := fun _ => fun
  | [d] => { results := [.lit (.bool true)], args := [d] }
  | _ => none }
def fnExactEraseSpreadRow : OpenClaim := { program := "ythpcnbjpdcpfbaa", sum := "ad079d0548a26bdb877006373fc03b7110e43296ed1df8886f55499dd3fa6620", func := "loop.example/g00905/laws.FnExactEraseSpread", spec := "fnExactEraseSpread", unfollowed := true, recurses := true, apart := false }
def FnExactEraseSpreadSaid : Prop := fnExactEraseSpreadRow.holds Try.pinned (OpenSpec.ofChange fnExactEraseSpreadSpec)

/-- ITS FALSE NEIGHBOUR: 'it returns false'. Refute it at one input. -/
def fnExactEraseSpreadWrong : ChangeSpec := { name := "fnExactEraseSpread", fn := fun _ => fun
  | [d] => { results := [.lit (.bool false)], args := [d] }
  | _ => none }
def FnExactEraseSpreadWrongFalsely : Prop := fnExactEraseSpreadRow.holds Try.pinned (OpenSpec.ofChange fnExactEraseSpreadWrong)

/-- 'laws.FnExactProgramTotal': WHATEVER THE INPUT: true; the input reads as it did. -/
def fnExactProgramTotalSpec : ChangeSpec := { name := "fnExactProgramTotal", fn := fun _ => fun
  | [d] => { results := [.lit (.bool true)], args := [d] }
  | _ => none }
def fnExactProgramTotalRow : OpenClaim := { program := "ythpcnbjpdcpfbaa", sum := "ad079d0548a26bdb877006373fc03b7110e43296ed1df8886f55499dd3fa6620", func := "loop.example/g00905/laws.FnExactProgramTotal", spec := "fnExactProgramTotal", unfollowed := true, recurses := true, apart := false }
def FnExactProgramTotalSaid : Prop := fnExactProgramTotalRow.holds Try.pinned (OpenSpec.ofChange fnExactProgramTotalSpec)

/-- ITS FALSE NEIGHBOUR: 'it returns false'. Refute it at one input. -/
def fnExactProgramTotalWrong : ChangeSpec := { name := "fnExactProgramTotal", fn := fun _ => fun
  | [d] => { results := [.lit (.bool false)], args := [d] }
  | _ => none }
def FnExactProgramTotalWrongFalsely : Prop := fnExactProgramTotalRow.holds Try.pinned (OpenSpec.ofChange fnExactProgramTotalWrong)

/-- 'laws.FnFtlMap': WHATEVER THE INPUT: true; the input reads as it did. -/
def fnFtlMapSpec : ChangeSpec := { name := "fnFtlMap", fn := fun _ => fun
  | [d] => { results := [.lit (.bool true)], args := [d] }
  | _ => none }
def fnFtlMapRow : OpenClaim := { program := "ythpcnbjpdcpfbaa", sum := "ad079d0548a26bdb877006373fc03b7110e43296ed1df8886f55499dd3fa6620", func := "loop.example/g00905/laws.FnFtlMap", spec := "fnFtlMap", apart := false }
def FnFtlMapSaid : Prop := fnFtlMapRow.holds Try.pinned (OpenSpec.ofChange fnFtlMapSpec)

/-- ITS FALSE NEIGHBOUR: 'it returns false'. Refute it at one input. -/
def fnFtlMapWrong : ChangeSpec := { name := "fnFtlMap", fn := fun _ => fun
  | [d] => { results := [.lit (.bool false)], args := [d] }
  | _ => none }
def FnFtlMapWrongFalsely : Prop := fnFtlMapRow.holds Try.pinned (OpenSpec.ofChange fnFtlMapWrong)

/-- 'laws.FnExactWriteAmplification': WHATEVER THE INPUT: true; the input reads as it did. -/
def fnExactWriteAmplificationSpec : ChangeSpec := { name := "fnExactWriteAmplification", fn := fun _ => fun
  | [d1, d2] => { results := [.lit (.bool true)], args := [d1, d2] }
  | _ => none }
def fnExactWriteAmplificationRow : OpenClaim := { program := "ythpcnbjpdcpfbaa", sum := "ad079d0548a26bdb877006373fc03b7110e43296ed1df8886f55499dd3fa6620", func := "loop.example/g00905/laws.FnExactWriteAmplification", spec := "fnExactWriteAmplification", unfollowed := true, recurses := true, apart := false }
def FnExactWriteAmplificationSaid : Prop := fnExactWriteAmplificationRow.holds Try.pinned (OpenSpec.ofChange fnExactWriteAmplificationSpec)

/-- ITS FALSE NEIGHBOUR: 'it returns false'. Refute it at one input. -/
def fnExactWriteAmplificationWrong : ChangeSpec := { name := "fnExactWriteAmplification", fn := fun _ => fun
  | [d1, d2] => { results := [.lit (.bool false)], args := [d1, d2] }
  | _ => none }
def FnExactWriteAmplificationWrongFalsely : Prop := fnExactWriteAmplificationRow.holds Try.pinned (OpenSpec.ofChange fnExactWriteAmplificationWrong)

/-- 'laws.FnExactStatsOf': WHATEVER THE INPUT: true; the input reads as it did. -/
def fnExactStatsOfSpec : ChangeSpec := { name := "fnExactStatsOf", fn := fun _ => fun
  | [d1, d2, d3] => { results := [.lit (.bool true)], args := [d1, d2, d3] }
  | _ => none }
def fnExactStatsOfRow : OpenClaim := { program := "ythpcnbjpdcpfbaa", sum := "ad079d0548a26bdb877006373fc03b7110e43296ed1df8886f55499dd3fa6620", func := "loop.example/g00905/laws.FnExactStatsOf", spec := "fnExactStatsOf", unfollowed := true, recurses := true, apart := false }
def FnExactStatsOfSaid : Prop := fnExactStatsOfRow.holds Try.pinned (OpenSpec.ofChange fnExactStatsOfSpec)

/-- ITS FALSE NEIGHBOUR: 'it returns false'. Refute it at one input. -/
def fnExactStatsOfWrong : ChangeSpec := { name := "fnExactStatsOf", fn := fun _ => fun
  | [d1, d2, d3] => { results := [.lit (.bool false)], args := [d1, d2, d3] }
  | _ => none }
def FnExactStatsOfWrongFalsely : Prop := fnExactStatsOfRow.holds Try.pinned (OpenSpec.ofChange fnExactStatsOfWrong)

/-- 'laws.FnBloomNoMiss': WHATEVER THE INPUT: true; the input reads as it did. -/
def fnBloomNoMissSpec : ChangeSpec := { name := "fnBloomNoMiss", fn := fun _ => fun
  | [d] => { results := [.lit (.bool true)], args := [d] }
  | _ => none }
def fnBloomNoMissRow : OpenClaim := { program := "ythpcnbjpdcpfbaa", sum := "ad079d0548a26bdb877006373fc03b7110e43296ed1df8886f55499dd3fa6620", func := "loop.example/g00905/laws.FnBloomNoMiss", spec := "fnBloomNoMiss", inPlace := ["internal/abi.NoEscape", "internal/bytealg.MakeNoZero"], unfollowed := true, recurses := true, apart := false }
def FnBloomNoMissSaid : Prop := fnBloomNoMissRow.holds Try.pinned (OpenSpec.ofChange fnBloomNoMissSpec)

/-- ITS FALSE NEIGHBOUR: 'it returns false'. Refute it at one input. -/
def fnBloomNoMissWrong : ChangeSpec := { name := "fnBloomNoMiss", fn := fun _ => fun
  | [d] => { results := [.lit (.bool false)], args := [d] }
  | _ => none }
def FnBloomNoMissWrongFalsely : Prop := fnBloomNoMissRow.holds Try.pinned (OpenSpec.ofChange fnBloomNoMissWrong)

/-- 'laws.FnExactCompactionLevel': WHATEVER THE INPUT: true; the input reads as it did. -/
def fnExactCompactionLevelSpec : ChangeSpec := { name := "fnExactCompactionLevel", fn := fun _ => fun
  | [d] => { results := [.lit (.bool true)], args := [d] }
  | _ => none }
def fnExactCompactionLevelRow : OpenClaim := { program := "ythpcnbjpdcpfbaa", sum := "ad079d0548a26bdb877006373fc03b7110e43296ed1df8886f55499dd3fa6620", func := "loop.example/g00905/laws.FnExactCompactionLevel", spec := "fnExactCompactionLevel", inPlace := ["internal/bytealg.abigen_runtime_cmpstring"], unfollowed := true, recurses := true, apart := false }
def FnExactCompactionLevelSaid : Prop := fnExactCompactionLevelRow.holds Try.pinned (OpenSpec.ofChange fnExactCompactionLevelSpec)

/-- ITS FALSE NEIGHBOUR: 'it returns false'. Refute it at one input. -/
def fnExactCompactionLevelWrong : ChangeSpec := { name := "fnExactCompactionLevel", fn := fun _ => fun
  | [d] => { results := [.lit (.bool false)], args := [d] }
  | _ => none }
def FnExactCompactionLevelWrongFalsely : Prop := fnExactCompactionLevelRow.holds Try.pinned (OpenSpec.ofChange fnExactCompactionLevelWrong)

/- THE SECOND FORM. 'bulk': how many values and letters a reading holds, each counted each time it is reached (what is shared counts as often as it is met; a slice's spare places count too). A statement '..UptoSaid' is the law's where the arguments, and the package variables that the reading takes, are together of bulk at most 1048576: NARROWER than '..Said'. Prove '..Said' where nothing that the law and all that it calls make is longer than what came in: it says more and counts as full. Else prove '..UptoSaid'. A law counts once. -/
mutual
def uptoBulk {H : Type} : DataW H → Nat
  | .lit (.string bytes) => bytes.length + 1
  | .lit _ => 1
  | .nil => 1
  | .ptr d => uptoBulk d + 1
  | .slice elems spare => uptoBulkAll elems + uptoBulkAll spare + 1
  | .agg parts => uptoBulkAll parts + 1
  | .iface _ d => uptoBulk d + 1
  | .map entries => uptoBulkEntries entries + 1
  | .held _ => 1
def uptoBulkAll {H : Type} : List (DataW H) → Nat
  | [] => 0
  | d :: r => uptoBulk d + uptoBulkAll r
def uptoBulkEntries {H : Type} : List (Lit × DataW H) → Nat
  | [] => 0
  | x :: r => uptoBulkEntry x + uptoBulkEntries r
def uptoBulkEntry {H : Type} : Lit × DataW H → Nat
  | (.string bytes, d) => bytes.length + uptoBulk d + 1
  | (_, d) => uptoBulk d + 1
 end
def uptoSmall : (H : Type) → List (DataW H) → Bool := fun _ ds => decide (uptoBulkAll ds ≤ 1048576)
def OpenSpec.upto (s : _root_.Go.ChangeSpec) : _root_.Go.OpenSpec := { _root_.Go.OpenSpec.ofChange s with cond := some uptoSmall }

/-- 'laws.FnExactLivePages', WHERE WHAT IT READS IS OF BULK AT MOST 1048576: true; the input reads as it did. -/
def fnExactLivePagesUptoRow : OpenClaim := { program := "ythpcnbjpdcpfbaa", sum := "ad079d0548a26bdb877006373fc03b7110e43296ed1df8886f55499dd3fa6620", func := "loop.example/g00905/laws.FnExactLivePages", spec := "fnExactLivePages", apart := false, narrowed := true }
def FnExactLivePagesUptoSaid : Prop := fnExactLivePagesUptoRow.holds Try.pinned (OpenSpec.upto fnExactLivePagesSpec)

/-- 'laws.FnStreams', WHERE WHAT IT READS IS OF BULK AT MOST 1048576: true; the input reads as it did. -/
def fnStreamsUptoRow : OpenClaim := { program := "ythpcnbjpdcpfbaa", sum := "ad079d0548a26bdb877006373fc03b7110e43296ed1df8886f55499dd3fa6620", func := "loop.example/g00905/laws.FnStreams", spec := "fnStreams", unfollowed := true, recurses := true, apart := false, narrowed := true }
def FnStreamsUptoSaid : Prop := fnStreamsUptoRow.holds Try.pinned (OpenSpec.upto fnStreamsSpec)

/-- 'laws.FnExactLiveIn', WHERE WHAT IT READS IS OF BULK AT MOST 1048576: true; the input reads as it did. -/
def fnExactLiveInUptoRow : OpenClaim := { program := "ythpcnbjpdcpfbaa", sum := "ad079d0548a26bdb877006373fc03b7110e43296ed1df8886f55499dd3fa6620", func := "loop.example/g00905/laws.FnExactLiveIn", spec := "fnExactLiveIn", apart := false, narrowed := true }
def FnExactLiveInUptoSaid : Prop := fnExactLiveInUptoRow.holds Try.pinned (OpenSpec.upto fnExactLiveInSpec)

/-- 'laws.FnExactEraseTotal', WHERE WHAT IT READS IS OF BULK AT MOST 1048576: true; the input reads as it did. -/
def fnExactEraseTotalUptoRow : OpenClaim := { program := "ythpcnbjpdcpfbaa", sum := "ad079d0548a26bdb877006373fc03b7110e43296ed1df8886f55499dd3fa6620", func := "loop.example/g00905/laws.FnExactEraseTotal", spec := "fnExactEraseTotal", unfollowed := true, recurses := true, apart := false, narrowed := true }
def FnExactEraseTotalUptoSaid : Prop := fnExactEraseTotalUptoRow.holds Try.pinned (OpenSpec.upto fnExactEraseTotalSpec)

/-- 'laws.FnExactValidTrial', WHERE WHAT IT READS IS OF BULK AT MOST 1048576: true; the input reads as it did. -/
def fnExactValidTrialUptoRow : OpenClaim := { program := "ythpcnbjpdcpfbaa", sum := "ad079d0548a26bdb877006373fc03b7110e43296ed1df8886f55499dd3fa6620", func := "loop.example/g00905/laws.FnExactValidTrial", spec := "fnExactValidTrial", unfollowed := true, recurses := true, apart := false, narrowed := true }
def FnExactValidTrialUptoSaid : Prop := fnExactValidTrialUptoRow.holds Try.pinned (OpenSpec.upto fnExactValidTrialSpec)

/-- 'laws.FnExactEraseSpread', WHERE WHAT IT READS IS OF BULK AT MOST 1048576: true; the input reads as it did. -/
def fnExactEraseSpreadUptoRow : OpenClaim := { program := "ythpcnbjpdcpfbaa", sum := "ad079d0548a26bdb877006373fc03b7110e43296ed1df8886f55499dd3fa6620", func := "loop.example/g00905/laws.FnExactEraseSpread", spec := "fnExactEraseSpread", unfollowed := true, recurses := true, apart := false, narrowed := true }
def FnExactEraseSpreadUptoSaid : Prop := fnExactEraseSpreadUptoRow.holds Try.pinned (OpenSpec.upto fnExactEraseSpreadSpec)

/-- 'laws.FnExactProgramTotal', WHERE WHAT IT READS IS OF BULK AT MOST 1048576: true; the input reads as it did. -/
def fnExactProgramTotalUptoRow : OpenClaim := { program := "ythpcnbjpdcpfbaa", sum := "ad079d0548a26bdb877006373fc03b7110e43296ed1df8886f55499dd3fa6620", func := "loop.example/g00905/laws.FnExactProgramTotal", spec := "fnExactProgramTotal", unfollowed := true, recurses := true, apart := false, narrowed := true }
def FnExactProgramTotalUptoSaid : Prop := fnExactProgramTotalUptoRow.holds Try.pinned (OpenSpec.upto fnExactProgramTotalSpec)

/-- 'laws.FnFtlMap', WHERE WHAT IT READS IS OF BULK AT MOST 1048576: true; the input reads as it did. -/
def fnFtlMapUptoRow : OpenClaim := { program := "ythpcnbjpdcpfbaa", sum := "ad079d0548a26bdb877006373fc03b7110e43296ed1df8886f55499dd3fa6620", func := "loop.example/g00905/laws.FnFtlMap", spec := "fnFtlMap", apart := false, narrowed := true }
def FnFtlMapUptoSaid : Prop := fnFtlMapUptoRow.holds Try.pinned (OpenSpec.upto fnFtlMapSpec)

/-- 'laws.FnExactWriteAmplification', WHERE WHAT IT READS IS OF BULK AT MOST 1048576: true; the input reads as it did. -/
def fnExactWriteAmplificationUptoRow : OpenClaim := { program := "ythpcnbjpdcpfbaa", sum := "ad079d0548a26bdb877006373fc03b7110e43296ed1df8886f55499dd3fa6620", func := "loop.example/g00905/laws.FnExactWriteAmplification", spec := "fnExactWriteAmplification", unfollowed := true, recurses := true, apart := false, narrowed := true }
def FnExactWriteAmplificationUptoSaid : Prop := fnExactWriteAmplificationUptoRow.holds Try.pinned (OpenSpec.upto fnExactWriteAmplificationSpec)

/-- 'laws.FnExactStatsOf', WHERE WHAT IT READS IS OF BULK AT MOST 1048576: true; the input reads as it did. -/
def fnExactStatsOfUptoRow : OpenClaim := { program := "ythpcnbjpdcpfbaa", sum := "ad079d0548a26bdb877006373fc03b7110e43296ed1df8886f55499dd3fa6620", func := "loop.example/g00905/laws.FnExactStatsOf", spec := "fnExactStatsOf", unfollowed := true, recurses := true, apart := false, narrowed := true }
def FnExactStatsOfUptoSaid : Prop := fnExactStatsOfUptoRow.holds Try.pinned (OpenSpec.upto fnExactStatsOfSpec)

/-- 'laws.FnBloomNoMiss', WHERE WHAT IT READS IS OF BULK AT MOST 1048576: true; the input reads as it did. -/
def fnBloomNoMissUptoRow : OpenClaim := { program := "ythpcnbjpdcpfbaa", sum := "ad079d0548a26bdb877006373fc03b7110e43296ed1df8886f55499dd3fa6620", func := "loop.example/g00905/laws.FnBloomNoMiss", spec := "fnBloomNoMiss", inPlace := ["internal/abi.NoEscape", "internal/bytealg.MakeNoZero"], unfollowed := true, recurses := true, apart := false, narrowed := true }
def FnBloomNoMissUptoSaid : Prop := fnBloomNoMissUptoRow.holds Try.pinned (OpenSpec.upto fnBloomNoMissSpec)

/-- 'laws.FnExactCompactionLevel', WHERE WHAT IT READS IS OF BULK AT MOST 1048576: true; the input reads as it did. -/
def fnExactCompactionLevelUptoRow : OpenClaim := { program := "ythpcnbjpdcpfbaa", sum := "ad079d0548a26bdb877006373fc03b7110e43296ed1df8886f55499dd3fa6620", func := "loop.example/g00905/laws.FnExactCompactionLevel", spec := "fnExactCompactionLevel", inPlace := ["internal/bytealg.abigen_runtime_cmpstring"], unfollowed := true, recurses := true, apart := false, narrowed := true }
def FnExactCompactionLevelUptoSaid : Prop := fnExactCompactionLevelUptoRow.holds Try.pinned (OpenSpec.upto fnExactCompactionLevelSpec)

end Rows
end Go.Proofs.Ythpcnbjpdcpfbaa

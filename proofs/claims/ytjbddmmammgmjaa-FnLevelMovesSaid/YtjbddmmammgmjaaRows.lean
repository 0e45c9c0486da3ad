/-
  No cell of these rows narrows 'for every input' (looked for: loops, veiled, ifaces, maps, wideKeys, modest, calm, conditions, laid).
  DERIVED. THE GIVEN ROWS OF THIS SEAT. 12 by the template 'for every input the law returns true; each argument reads behind the call as it read before'; 0 by the template 'total and deterministic' (their statements: YtjbddmmammgmjaaTotals.lean).
  GIVEN WITH THE SEED: the statements are not yours to turn. If you find one false, say at which input.
  Laid BY PROGRAM, IN A SANDBOX (cutbox-rows.mjs): the forced cells as the released guide's own fill.sh prints them over the translation 4b947f90ef1de74c… (all of the seat's roots in one cut). By AI agents, Wed Nov 11 2026. No macro, syntax, notation, axiom, sorry.
-/
import Derived.Test.YtjbddmmammgmjaaChecked
import GoSem.Claim
import GoSem.ClaimJoined
import GoSem.ClaimMapViews
import Derived.JoinedTies
import Derived.KernelRfl
namespace Go.Proofs.Ytjbddmmammgmjaa
/- THE CELL 'sum', in the pinned program and in every row, IS THE sha256 OF THE DUMP (.gsa) THAT YtjbddmmammgmjaaProg.lean LOADS. Nothing in Lean hashes anything: it is a label: what it is worth is what the hold of that sum in a sandbox is worth. -/
noncomputable def Try.pinned : Pinned := { name := "ytjbddmmammgmjaa", sum := "4b947f90ef1de74ca6a5eaa7b0e23e5b5a10759a2bdd45c1d6b6626798f938d9", checked := Try.checked }
namespace Rows
def none {H : Type} : Left H := { results := [], args := [] }

/-- 'laws.FnErasePasses': WHATEVER THE INPUT: true; the input reads as it did. -/
def fnErasePassesSpec : ChangeSpec := { name := "fnErasePasses", fn := fun _ => fun
  | [d] => { results := [.lit (.bool true)], args := [d] }
  | _ => none }
def fnErasePassesRow : OpenClaim := { program := "ytjbddmmammgmjaa", sum := "4b947f90ef1de74ca6a5eaa7b0e23e5b5a10759a2bdd45c1d6b6626798f938d9", func := "loop.example/g00905/laws.FnErasePasses", spec := "fnErasePasses", unfollowed := true, recurses := true, apart := false }
def FnErasePassesSaid : Prop := fnErasePassesRow.holds Try.pinned (OpenSpec.ofChange fnErasePassesSpec)

/-- ITS FALSE NEIGHBOUR: 'it returns false'. Refute it at one input. -/
def fnErasePassesWrong : ChangeSpec := { name := "fnErasePasses", fn := fun _ => fun
  | [d] => { results := [.lit (.bool false)], args := [d] }
  | _ => none }
def FnErasePassesWrongFalsely : Prop := fnErasePassesRow.holds Try.pinned (OpenSpec.ofChange fnErasePassesWrong)

/-- 'laws.FnCleaning': WHATEVER THE INPUT: true; the input reads as it did. -/
def fnCleaningSpec : ChangeSpec := { name := "fnCleaning", fn := fun _ => fun
  | [d] => { results := [.lit (.bool true)], args := [d] }
  | _ => none }
def fnCleaningRow : OpenClaim := { program := "ytjbddmmammgmjaa", sum := "4b947f90ef1de74ca6a5eaa7b0e23e5b5a10759a2bdd45c1d6b6626798f938d9", func := "loop.example/g00905/laws.FnCleaning", spec := "fnCleaning", unfollowed := true, recurses := true, apart := false }
def FnCleaningSaid : Prop := fnCleaningRow.holds Try.pinned (OpenSpec.ofChange fnCleaningSpec)

/-- ITS FALSE NEIGHBOUR: 'it returns false'. Refute it at one input. -/
def fnCleaningWrong : ChangeSpec := { name := "fnCleaning", fn := fun _ => fun
  | [d] => { results := [.lit (.bool false)], args := [d] }
  | _ => none }
def FnCleaningWrongFalsely : Prop := fnCleaningRow.holds Try.pinned (OpenSpec.ofChange fnCleaningWrong)

/-- 'laws.FnStreams': WHATEVER THE INPUT: true; the input reads as it did. -/
def fnStreamsSpec : ChangeSpec := { name := "fnStreams", fn := fun _ => fun
  | [d] => { results := [.lit (.bool true)], args := [d] }
  | _ => none }
def fnStreamsRow : OpenClaim := { program := "ytjbddmmammgmjaa", sum := "4b947f90ef1de74ca6a5eaa7b0e23e5b5a10759a2bdd45c1d6b6626798f938d9", func := "loop.example/g00905/laws.FnStreams", spec := "fnStreams", unfollowed := true, recurses := true, apart := false }
def FnStreamsSaid : Prop := fnStreamsRow.holds Try.pinned (OpenSpec.ofChange fnStreamsSpec)

/-- ITS FALSE NEIGHBOUR: 'it returns false'. Refute it at one input. -/
def fnStreamsWrong : ChangeSpec := { name := "fnStreams", fn := fun _ => fun
  | [d] => { results := [.lit (.bool false)], args := [d] }
  | _ => none }
def FnStreamsWrongFalsely : Prop := fnStreamsRow.holds Try.pinned (OpenSpec.ofChange fnStreamsWrong)

/-- 'laws.FnFtlMap': WHATEVER THE INPUT: true; the input reads as it did. -/
def fnFtlMapSpec : ChangeSpec := { name := "fnFtlMap", fn := fun _ => fun
  | [d] => { results := [.lit (.bool true)], args := [d] }
  | _ => none }
def fnFtlMapRow : OpenClaim := { program := "ytjbddmmammgmjaa", sum := "4b947f90ef1de74ca6a5eaa7b0e23e5b5a10759a2bdd45c1d6b6626798f938d9", func := "loop.example/g00905/laws.FnFtlMap", spec := "fnFtlMap", apart := false }
def FnFtlMapSaid : Prop := fnFtlMapRow.holds Try.pinned (OpenSpec.ofChange fnFtlMapSpec)

/-- ITS FALSE NEIGHBOUR: 'it returns false'. Refute it at one input. -/
def fnFtlMapWrong : ChangeSpec := { name := "fnFtlMap", fn := fun _ => fun
  | [d] => { results := [.lit (.bool false)], args := [d] }
  | _ => none }
def FnFtlMapWrongFalsely : Prop := fnFtlMapRow.holds Try.pinned (OpenSpec.ofChange fnFtlMapWrong)

/-- 'laws.FnFreeBlocks': WHATEVER THE INPUT: true; the input reads as it did. -/
def fnFreeBlocksSpec : ChangeSpec := { name := "fnFreeBlocks", fn := fun _ => fun
  | [d] => { results := [.lit (.bool true)], args := [d] }
  | _ => none }
def fnFreeBlocksRow : OpenClaim := { program := "ytjbddmmammgmjaa", sum := "4b947f90ef1de74ca6a5eaa7b0e23e5b5a10759a2bdd45c1d6b6626798f938d9", func := "loop.example/g00905/laws.FnFreeBlocks", spec := "fnFreeBlocks", unfollowed := true, recurses := true, apart := false }
def FnFreeBlocksSaid : Prop := fnFreeBlocksRow.holds Try.pinned (OpenSpec.ofChange fnFreeBlocksSpec)

/-- ITS FALSE NEIGHBOUR: 'it returns false'. Refute it at one input. -/
def fnFreeBlocksWrong : ChangeSpec := { name := "fnFreeBlocks", fn := fun _ => fun
  | [d] => { results := [.lit (.bool false)], args := [d] }
  | _ => none }
def FnFreeBlocksWrongFalsely : Prop := fnFreeBlocksRow.holds Try.pinned (OpenSpec.ofChange fnFreeBlocksWrong)

/-- 'laws.FnLevelMoves': WHATEVER THE INPUT: true; the input reads as it did. -/
def fnLevelMovesSpec : ChangeSpec := { name := "fnLevelMoves", fn := fun _ => fun
  | [d] => { results := [.lit (.bool true)], args := [d] }
  | _ => none }
def fnLevelMovesRow : OpenClaim := { program := "ytjbddmmammgmjaa", sum := "4b947f90ef1de74ca6a5eaa7b0e23e5b5a10759a2bdd45c1d6b6626798f938d9", func := "loop.example/g00905/laws.FnLevelMoves", spec := "fnLevelMoves", unfollowed := true, recurses := true, apart := false }
def FnLevelMovesSaid : Prop := fnLevelMovesRow.holds Try.pinned (OpenSpec.ofChange fnLevelMovesSpec)

/-- ITS FALSE NEIGHBOUR: 'it returns false'. Refute it at one input. -/
def fnLevelMovesWrong : ChangeSpec := { name := "fnLevelMoves", fn := fun _ => fun
  | [d] => { results := [.lit (.bool false)], args := [d] }
  | _ => none }
def FnLevelMovesWrongFalsely : Prop := fnLevelMovesRow.holds Try.pinned (OpenSpec.ofChange fnLevelMovesWrong)

/-- 'laws.FnScramble': WHATEVER THE INPUT: true; the input reads as it did. -/
def fnScrambleSpec : ChangeSpec := { name := "fnScramble", fn := fun _ => fun
  | [d1, d2] => { results := [.lit (.bool true)], args := [d1, d2] }
  | _ => none }
def fnScrambleRow : OpenClaim := { program := "ytjbddmmammgmjaa", sum := "4b947f90ef1de74ca6a5eaa7b0e23e5b5a10759a2bdd45c1d6b6626798f938d9", func := "loop.example/g00905/laws.FnScramble", spec := "fnScramble", apart := false }
def FnScrambleSaid : Prop := fnScrambleRow.holds Try.pinned (OpenSpec.ofChange fnScrambleSpec)

/-- ITS FALSE NEIGHBOUR: 'it returns false'. Refute it at one input. -/
def fnScrambleWrong : ChangeSpec := { name := "fnScramble", fn := fun _ => fun
  | [d1, d2] => { results := [.lit (.bool false)], args := [d1, d2] }
  | _ => none }
def FnScrambleWrongFalsely : Prop := fnScrambleRow.holds Try.pinned (OpenSpec.ofChange fnScrambleWrong)

/-- 'laws.FnRandomFaults': WHATEVER THE INPUT: true; the input reads as it did. -/
def fnRandomFaultsSpec : ChangeSpec := { name := "fnRandomFaults", fn := fun _ => fun
  | [d] => { results := [.lit (.bool true)], args := [d] }
  | _ => none }
def fnRandomFaultsRow : OpenClaim := { program := "ytjbddmmammgmjaa", sum := "4b947f90ef1de74ca6a5eaa7b0e23e5b5a10759a2bdd45c1d6b6626798f938d9", func := "loop.example/g00905/laws.FnRandomFaults", spec := "fnRandomFaults", unfollowed := true, recurses := true, apart := false }
def FnRandomFaultsSaid : Prop := fnRandomFaultsRow.holds Try.pinned (OpenSpec.ofChange fnRandomFaultsSpec)

/-- ITS FALSE NEIGHBOUR: 'it returns false'. Refute it at one input. -/
def fnRandomFaultsWrong : ChangeSpec := { name := "fnRandomFaults", fn := fun _ => fun
  | [d] => { results := [.lit (.bool false)], args := [d] }
  | _ => none }
def FnRandomFaultsWrongFalsely : Prop := fnRandomFaultsRow.holds Try.pinned (OpenSpec.ofChange fnRandomFaultsWrong)

/-- 'laws.FnCodec': WHATEVER THE INPUT: true; the input reads as it did. -/
def fnCodecSpec : ChangeSpec := { name := "fnCodec", fn := fun _ => fun
  | [d1, d2] => { results := [.lit (.bool true)], args := [d1, d2] }
  | _ => none }
def fnCodecRow : OpenClaim := { program := "ytjbddmmammgmjaa", sum := "4b947f90ef1de74ca6a5eaa7b0e23e5b5a10759a2bdd45c1d6b6626798f938d9", func := "loop.example/g00905/laws.FnCodec", spec := "fnCodec", apart := false }
def FnCodecSaid : Prop := fnCodecRow.holds Try.pinned (OpenSpec.ofChange fnCodecSpec)

/-- ITS FALSE NEIGHBOUR: 'it returns false'. Refute it at one input. -/
def fnCodecWrong : ChangeSpec := { name := "fnCodec", fn := fun _ => fun
  | [d1, d2] => { results := [.lit (.bool false)], args := [d1, d2] }
  | _ => none }
def FnCodecWrongFalsely : Prop := fnCodecRow.holds Try.pinned (OpenSpec.ofChange fnCodecWrong)

/-- 'laws.FnBloomNoMiss': WHATEVER THE INPUT: true; the input reads as it did. -/
def fnBloomNoMissSpec : ChangeSpec := { name := "fnBloomNoMiss", fn := fun _ => fun
  | [d] => { results := [.lit (.bool true)], args := [d] }
  | _ => none }
def fnBloomNoMissRow : OpenClaim := { program := "ytjbddmmammgmjaa", sum := "4b947f90ef1de74ca6a5eaa7b0e23e5b5a10759a2bdd45c1d6b6626798f938d9", func := "loop.example/g00905/laws.FnBloomNoMiss", spec := "fnBloomNoMiss", inPlace := ["internal/abi.NoEscape", "internal/bytealg.MakeNoZero"], unfollowed := true, recurses := true, apart := false }
def FnBloomNoMissSaid : Prop := fnBloomNoMissRow.holds Try.pinned (OpenSpec.ofChange fnBloomNoMissSpec)

/-- ITS FALSE NEIGHBOUR: 'it returns false'. Refute it at one input. -/
def fnBloomNoMissWrong : ChangeSpec := { name := "fnBloomNoMiss", fn := fun _ => fun
  | [d] => { results := [.lit (.bool false)], args := [d] }
  | _ => none }
def FnBloomNoMissWrongFalsely : Prop := fnBloomNoMissRow.holds Try.pinned (OpenSpec.ofChange fnBloomNoMissWrong)

/-- 'laws.FnExactPrefixOf': WHATEVER THE INPUT: true; the input reads as it did. -/
def fnExactPrefixOfSpec : ChangeSpec := { name := "fnExactPrefixOf", fn := fun _ => fun
  | [d1, d2] => { results := [.lit (.bool true)], args := [d1, d2] }
  | _ => none }
def fnExactPrefixOfRow : OpenClaim := { program := "ytjbddmmammgmjaa", sum := "4b947f90ef1de74ca6a5eaa7b0e23e5b5a10759a2bdd45c1d6b6626798f938d9", func := "loop.example/g00905/laws.FnExactPrefixOf", spec := "fnExactPrefixOf", inPlace := ["internal/bytealg.abigen_runtime_cmpstring", "slices.overlaps[loop.example/g00905/impl.Pair]"], unfollowed := true, recurses := true, apart := false }
def FnExactPrefixOfSaid : Prop := fnExactPrefixOfRow.holds Try.pinned (OpenSpec.ofChange fnExactPrefixOfSpec)

/-- ITS FALSE NEIGHBOUR: 'it returns false'. Refute it at one input. -/
def fnExactPrefixOfWrong : ChangeSpec := { name := "fnExactPrefixOf", fn := fun _ => fun
  | [d1, d2] => { results := [.lit (.bool false)], args := [d1, d2] }
  | _ => none }
def FnExactPrefixOfWrongFalsely : Prop := fnExactPrefixOfRow.holds Try.pinned (OpenSpec.ofChange fnExactPrefixOfWrong)

/-- 'laws.FnExactApplyFault': WHATEVER THE INPUT: true; the input reads as it did. -/
def fnExactApplyFaultSpec : ChangeSpec := { name := "fnExactApplyFault", fn := fun _ => fun
  | [d1, d2] => { results := [.lit (.bool true)], args := [d1, d2] }
  | _ => none }
def fnExactApplyFaultRow : OpenClaim := { program := "ytjbddmmammgmjaa", sum := "4b947f90ef1de74ca6a5eaa7b0e23e5b5a10759a2bdd45c1d6b6626798f938d9", func := "loop.example/g00905/laws.FnExactApplyFault", spec := "fnExactApplyFault", unfollowed := true, recurses := true, apart := false }
def FnExactApplyFaultSaid : Prop := fnExactApplyFaultRow.holds Try.pinned (OpenSpec.ofChange fnExactApplyFaultSpec)

/-- ITS FALSE NEIGHBOUR: 'it returns false'. Refute it at one input. -/
def fnExactApplyFaultWrong : ChangeSpec := { name := "fnExactApplyFault", fn := fun _ => fun
  | [d1, d2] => { results := [.lit (.bool false)], args := [d1, d2] }
  | _ => none }
def FnExactApplyFaultWrongFalsely : Prop := fnExactApplyFaultRow.holds Try.pinned (OpenSpec.ofChange fnExactApplyFaultWrong)

/- THE SECOND FORM. 'bulk': how many values and letters a reading holds, each counted each time it is reached (what is shared counts as often as it is met; a slice's spare places count too). A statement '..UptoSaid' is the law's where the arguments, and the package variables that the reading takes, are together of bulk at most 1048576: NARROWER than '..Said'. Prove '..Said' where nothing that the law and all that it calls make is longer than what came in: it says more and counts as full. Else prove '..UptoSaid'. A law counts once. -/
mutual
def uptoBulk {H : Type} : DataW H → Nat
  | .lit (.string bytes) => bytes.length + 1
  | .lit _ => 1
  | .nil => 1
  | .ptr d => uptoBulk d + 1
  | .slice elems spare => uptoBulkAll elems + uptoBulkAll spare + 1
  | .agg parts => uptoBulkAll parts + 1
  | .iface _ d => uptoBulk d + 1
  | .map entries => uptoBulkEntries entries + 1
  | .held _ => 1
def uptoBulkAll {H : Type} : List (DataW H) → Nat
  | [] => 0
  | d :: r => uptoBulk d + uptoBulkAll r
def uptoBulkEntries {H : Type} : List (Lit × DataW H) → Nat
  | [] => 0
  | x :: r => uptoBulkEntry x + uptoBulkEntries r
def uptoBulkEntry {H : Type} : Lit × DataW H → Nat
  | (.string bytes, d) => bytes.length + uptoBulk d + 1
  | (_, d) => uptoBulk d + 1
 end
def uptoSmall : (H : Type) → List (DataW H) → Bool := fun _ ds => decide (uptoBulkAll ds ≤ 1048576)
def OpenSpec.upto (s : _root_.Go.ChangeSpec) : _root_.Go.OpenSpec := { _root_.Go.OpenSpec.ofChange s with cond := some uptoSmall }

/-- 'laws.FnErasePasses', WHERE WHAT IT READS IS OF BULK AT MOST 1048576: true; the input reads as it did. -/
def fnErasePassesUptoRow : OpenClaim := { program := "ytjbddmmammgmjaa", sum := "4b947f90ef1de74ca6a5eaa7b0e23e5b5a10759a2bdd45c1d6b6626798f938d9", func := "loop.example/g00905/laws.FnErasePasses", spec := "fnErasePasses", unfollowed := true, recurses := true, apart := false, narrowed := true }
def FnErasePassesUptoSaid : Prop := fnErasePassesUptoRow.holds Try.pinned (OpenSpec.upto fnErasePassesSpec)

/-- 'laws.FnCleaning', WHERE WHAT IT READS IS OF BULK AT MOST 1048576: true; the input reads as it did. -/
def fnCleaningUptoRow : OpenClaim := { program := "ytjbddmmammgmjaa", sum := "4b947f90ef1de74ca6a5eaa7b0e23e5b5a10759a2bdd45c1d6b6626798f938d9", func := "loop.example/g00905/laws.FnCleaning", spec := "fnCleaning", unfollowed := true, recurses := true, apart := false, narrowed := true }
def FnCleaningUptoSaid : Prop := fnCleaningUptoRow.holds Try.pinned (OpenSpec.upto fnCleaningSpec)

/-- 'laws.FnStreams', WHERE WHAT IT READS IS OF BULK AT MOST 1048576: true; the input reads as it did. -/
def fnStreamsUptoRow : OpenClaim := { program := "ytjbddmmammgmjaa", sum := "4b947f90ef1de74ca6a5eaa7b0e23e5b5a10759a2bdd45c1d6b6626798f938d9", func := "loop.example/g00905/laws.FnStreams", spec := "fnStreams", unfollowed := true, recurses := true, apart := false, narrowed := true }
def FnStreamsUptoSaid : Prop := fnStreamsUptoRow.holds Try.pinned (OpenSpec.upto fnStreamsSpec)

/-- 'laws.FnFtlMap', WHERE WHAT IT READS IS OF BULK AT MOST 1048576: true; the input reads as it did. -/
def fnFtlMapUptoRow : OpenClaim := { program := "ytjbddmmammgmjaa", sum := "4b947f90ef1de74ca6a5eaa7b0e23e5b5a10759a2bdd45c1d6b6626798f938d9", func := "loop.example/g00905/laws.FnFtlMap", spec := "fnFtlMap", apart := false, narrowed := true }
def FnFtlMapUptoSaid : Prop := fnFtlMapUptoRow.holds Try.pinned (OpenSpec.upto fnFtlMapSpec)

/-- 'laws.FnFreeBlocks', WHERE WHAT IT READS IS OF BULK AT MOST 1048576: true; the input reads as it did. -/
def fnFreeBlocksUptoRow : OpenClaim := { program := "ytjbddmmammgmjaa", sum := "4b947f90ef1de74ca6a5eaa7b0e23e5b5a10759a2bdd45c1d6b6626798f938d9", func := "loop.example/g00905/laws.FnFreeBlocks", spec := "fnFreeBlocks", unfollowed := true, recurses := true, apart := false, narrowed := true }
def FnFreeBlocksUptoSaid : Prop := fnFreeBlocksUptoRow.holds Try.pinned (OpenSpec.upto fnFreeBlocksSpec)

/-- 'laws.FnLevelMoves', WHERE WHAT IT READS IS OF BULK AT MOST 1048576: true; the input reads as it did. -/
def fnLevelMovesUptoRow : OpenClaim := { program := "ytjbddmmammgmjaa", sum := "4b947f90ef1de74ca6a5eaa7b0e23e5b5a10759a2bdd45c1d6b6626798f938d9", func := "loop.example/g00905/laws.FnLevelMoves", spec := "fnLevelMoves", unfollowed := true, recurses := true, apart := false, narrowed := true }
def FnLevelMovesUptoSaid : Prop := fnLevelMovesUptoRow.holds Try.pinned (OpenSpec.upto fnLevelMovesSpec)

/-- 'laws.FnScramble', WHERE WHAT IT READS IS OF BULK AT MOST 1048576: true; the input reads as it did. -/
def fnScrambleUptoRow : OpenClaim := { program := "ytjbddmmammgmjaa", sum := "4b947f90ef1de74ca6a5eaa7b0e23e5b5a10759a2bdd45c1d6b6626798f938d9", func := "loop.example/g00905/laws.FnScramble", spec := "fnScramble", apart := false, narrowed := true }
def FnScrambleUptoSaid : Prop := fnScrambleUptoRow.holds Try.pinned (OpenSpec.upto fnScrambleSpec)

/-- 'laws.FnRandomFaults', WHERE WHAT IT READS IS OF BULK AT MOST 1048576: true; the input reads as it did. -/
def fnRandomFaultsUptoRow : OpenClaim := { program := "ytjbddmmammgmjaa", sum := "4b947f90ef1de74ca6a5eaa7b0e23e5b5a10759a2bdd45c1d6b6626798f938d9", func := "loop.example/g00905/laws.FnRandomFaults", spec := "fnRandomFaults", unfollowed := true, recurses := true, apart := false, narrowed := true }
def FnRandomFaultsUptoSaid : Prop := fnRandomFaultsUptoRow.holds Try.pinned (OpenSpec.upto fnRandomFaultsSpec)

/-- 'laws.FnCodec', WHERE WHAT IT READS IS OF BULK AT MOST 1048576: true; the input reads as it did. -/
def fnCodecUptoRow : OpenClaim := { program := "ytjbddmmammgmjaa", sum := "4b947f90ef1de74ca6a5eaa7b0e23e5b5a10759a2bdd45c1d6b6626798f938d9", func := "loop.example/g00905/laws.FnCodec", spec := "fnCodec", apart := false, narrowed := true }
def FnCodecUptoSaid : Prop := fnCodecUptoRow.holds Try.pinned (OpenSpec.upto fnCodecSpec)

/-- 'laws.FnBloomNoMiss', WHERE WHAT IT READS IS OF BULK AT MOST 1048576: true; the input reads as it did. -/
def fnBloomNoMissUptoRow : OpenClaim := { program := "ytjbddmmammgmjaa", sum := "4b947f90ef1de74ca6a5eaa7b0e23e5b5a10759a2bdd45c1d6b6626798f938d9", func := "loop.example/g00905/laws.FnBloomNoMiss", spec := "fnBloomNoMiss", inPlace := ["internal/abi.NoEscape", "internal/bytealg.MakeNoZero"], unfollowed := true, recurses := true, apart := false, narrowed := true }
def FnBloomNoMissUptoSaid : Prop := fnBloomNoMissUptoRow.holds Try.pinned (OpenSpec.upto fnBloomNoMissSpec)

/-- 'laws.FnExactPrefixOf', WHERE WHAT IT READS IS OF BULK AT MOST 1048576: true; the input reads as it did. -/
def fnExactPrefixOfUptoRow : OpenClaim := { program := "ytjbddmmammgmjaa", sum := "4b947f90ef1de74ca6a5eaa7b0e23e5b5a10759a2bdd45c1d6b6626798f938d9", func := "loop.example/g00905/laws.FnExactPrefixOf", spec := "fnExactPrefixOf", inPlace := ["internal/bytealg.abigen_runtime_cmpstring", "slices.overlaps[loop.example/g00905/impl.Pair]"], unfollowed := true, recurses := true, apart := false, narrowed := true }
def FnExactPrefixOfUptoSaid : Prop := fnExactPrefixOfUptoRow.holds Try.pinned (OpenSpec.upto fnExactPrefixOfSpec)

/-- 'laws.FnExactApplyFault', WHERE WHAT IT READS IS OF BULK AT MOST 1048576: true; the input reads as it did. -/
def fnExactApplyFaultUptoRow : OpenClaim := { program := "ytjbddmmammgmjaa", sum := "4b947f90ef1de74ca6a5eaa7b0e23e5b5a10759a2bdd45c1d6b6626798f938d9", func := "loop.example/g00905/laws.FnExactApplyFault", spec := "fnExactApplyFault", unfollowed := true, recurses := true, apart := false, narrowed := true }
def FnExactApplyFaultUptoSaid : Prop := fnExactApplyFaultUptoRow.holds Try.pinned (OpenSpec.upto fnExactApplyFaultSpec)

end Rows
end Go.Proofs.Ytjbddmmammgmjaa

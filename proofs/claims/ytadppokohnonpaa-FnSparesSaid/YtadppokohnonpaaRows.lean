/-
  No cell of these rows narrows 'for every input' (looked for: loops, veiled, ifaces, maps, wideKeys, modest, calm, conditions, laid).
  DERIVED. THE GIVEN ROWS OF THIS SEAT. 11 by the template 'for every input the law returns true; each argument reads behind the call as it read before'; 0 by the template 'total and deterministic' (their statements: YtadppokohnonpaaTotals.lean).
  GIVEN WITH THE SEED: the statements are not yours to turn. If you find one false, say at which input.
  Laid BY PROGRAM, IN A SANDBOX (cutbox-rows.mjs): the forced cells as the released guide's own fill.sh prints them over the translation 79c9c8800346a284… (all of the seat's roots in one cut). By AI agents, Wed Nov 11 2026. No macro, syntax, notation, axiom, sorry.
-/
import Derived.Test.YtadppokohnonpaaChecked
import GoSem.Claim
import GoSem.ClaimJoined
import GoSem.ClaimMapViews
import Derived.JoinedTies
import Derived.KernelRfl
namespace Go.Proofs.Ytadppokohnonpaa
/- THE CELL 'sum', in the pinned program and in every row, IS THE sha256 OF THE DUMP (.gsa) THAT YtadppokohnonpaaProg.lean LOADS. Nothing in Lean hashes anything: it is a label: what it is worth is what the hold of that sum in a sandbox is worth. -/
noncomputable def Try.pinned : Pinned := { name := "ytadppokohnonpaa", sum := "79c9c8800346a2844adcd0bc9e24c5090e9cd2c3ea67e8d7737ddc45ae7a9ee4", checked := Try.checked }
namespace Rows
def none {H : Type} : Left H := { results := [], args := [] }

/-- 'laws.FnExactDecodeEdit': WHATEVER THE INPUT: true; the input reads as it did. -/
def fnExactDecodeEditSpec : ChangeSpec := { name := "fnExactDecodeEdit", fn := fun _ => fun
  | [d] => { results := [.lit (.bool true)], args := [d] }
  | _ => none }
def fnExactDecodeEditRow : OpenClaim := { program := "ytadppokohnonpaa", sum := "79c9c8800346a2844adcd0bc9e24c5090e9cd2c3ea67e8d7737ddc45ae7a9ee4", func := "loop.example/g00905/laws.FnExactDecodeEdit", spec := "fnExactDecodeEdit", unfollowed := true, recurses := true, apart := false }
def FnExactDecodeEditSaid : Prop := fnExactDecodeEditRow.holds Try.pinned (OpenSpec.ofChange fnExactDecodeEditSpec)

/-- ITS FALSE NEIGHBOUR: 'it returns false'. Refute it at one input. -/
def fnExactDecodeEditWrong : ChangeSpec := { name := "fnExactDecodeEdit", fn := fun _ => fun
  | [d] => { results := [.lit (.bool false)], args := [d] }
  | _ => none }
def FnExactDecodeEditWrongFalsely : Prop := fnExactDecodeEditRow.holds Try.pinned (OpenSpec.ofChange fnExactDecodeEditWrong)

/-- 'laws.FnExactDecodeVersion': WHATEVER THE INPUT: true; the input reads as it did. -/
def fnExactDecodeVersionSpec : ChangeSpec := { name := "fnExactDecodeVersion", fn := fun _ => fun
  | [d] => { results := [.lit (.bool true)], args := [d] }
  | _ => none }
def fnExactDecodeVersionRow : OpenClaim := { program := "ytadppokohnonpaa", sum := "79c9c8800346a2844adcd0bc9e24c5090e9cd2c3ea67e8d7737ddc45ae7a9ee4", func := "loop.example/g00905/laws.FnExactDecodeVersion", spec := "fnExactDecodeVersion", inPlace := ["internal/bytealg.abigen_runtime_cmpstring"], unfollowed := true, recurses := true, apart := false }
def FnExactDecodeVersionSaid : Prop := fnExactDecodeVersionRow.holds Try.pinned (OpenSpec.ofChange fnExactDecodeVersionSpec)

/-- ITS FALSE NEIGHBOUR: 'it returns false'. Refute it at one input. -/
def fnExactDecodeVersionWrong : ChangeSpec := { name := "fnExactDecodeVersion", fn := fun _ => fun
  | [d] => { results := [.lit (.bool false)], args := [d] }
  | _ => none }
def FnExactDecodeVersionWrongFalsely : Prop := fnExactDecodeVersionRow.holds Try.pinned (OpenSpec.ofChange fnExactDecodeVersionWrong)

/-- 'laws.FnSpares': WHATEVER THE INPUT: true; the input reads as it did. -/
def fnSparesSpec : ChangeSpec := { name := "fnSpares", fn := fun _ => fun
  | [d] => { results := [.lit (.bool true)], args := [d] }
  | _ => none }
def fnSparesRow : OpenClaim := { program := "ytadppokohnonpaa", sum := "79c9c8800346a2844adcd0bc9e24c5090e9cd2c3ea67e8d7737ddc45ae7a9ee4", func := "loop.example/g00905/laws.FnSpares", spec := "fnSpares", inPlace := ["slices.overlaps[int64]"], unfollowed := true, recurses := true, apart := false }
def FnSparesSaid : Prop := fnSparesRow.holds Try.pinned (OpenSpec.ofChange fnSparesSpec)

/-- ITS FALSE NEIGHBOUR: 'it returns false'. Refute it at one input. -/
def fnSparesWrong : ChangeSpec := { name := "fnSpares", fn := fun _ => fun
  | [d] => { results := [.lit (.bool false)], args := [d] }
  | _ => none }
def FnSparesWrongFalsely : Prop := fnSparesRow.holds Try.pinned (OpenSpec.ofChange fnSparesWrong)

/-- 'laws.FnFtlRecover': WHATEVER THE INPUT: true; the input reads as it did. -/
def fnFtlRecoverSpec : ChangeSpec := { name := "fnFtlRecover", fn := fun _ => fun
  | [d] => { results := [.lit (.bool true)], args := [d] }
  | _ => none }
def fnFtlRecoverRow : OpenClaim := { program := "ytadppokohnonpaa", sum := "79c9c8800346a2844adcd0bc9e24c5090e9cd2c3ea67e8d7737ddc45ae7a9ee4", func := "loop.example/g00905/laws.FnFtlRecover", spec := "fnFtlRecover", unfollowed := true, recurses := true, apart := false }
def FnFtlRecoverSaid : Prop := fnFtlRecoverRow.holds Try.pinned (OpenSpec.ofChange fnFtlRecoverSpec)

/-- ITS FALSE NEIGHBOUR: 'it returns false'. Refute it at one input. -/
def fnFtlRecoverWrong : ChangeSpec := { name := "fnFtlRecover", fn := fun _ => fun
  | [d] => { results := [.lit (.bool false)], args := [d] }
  | _ => none }
def FnFtlRecoverWrongFalsely : Prop := fnFtlRecoverRow.holds Try.pinned (OpenSpec.ofChange fnFtlRecoverWrong)

/-- 'laws.FnExactPotentialAfter': WHATEVER THE INPUT: true; the input reads as it did. -/
def fnExactPotentialAfterSpec : ChangeSpec := { name := "fnExactPotentialAfter", fn := fun _ => fun
  | [d1, d2] => { results := [.lit (.bool true)], args := [d1, d2] }
  | _ => none }
def fnExactPotentialAfterRow : OpenClaim := { program := "ytadppokohnonpaa", sum := "79c9c8800346a2844adcd0bc9e24c5090e9cd2c3ea67e8d7737ddc45ae7a9ee4", func := "loop.example/g00905/laws.FnExactPotentialAfter", spec := "fnExactPotentialAfter", inPlace := ["internal/bytealg.abigen_runtime_cmpstring"], unfollowed := true, recurses := true, apart := false }
def FnExactPotentialAfterSaid : Prop := fnExactPotentialAfterRow.holds Try.pinned (OpenSpec.ofChange fnExactPotentialAfterSpec)

/-- ITS FALSE NEIGHBOUR: 'it returns false'. Refute it at one input. -/
def fnExactPotentialAfterWrong : ChangeSpec := { name := "fnExactPotentialAfter", fn := fun _ => fun
  | [d1, d2] => { results := [.lit (.bool false)], args := [d1, d2] }
  | _ => none }
def FnExactPotentialAfterWrongFalsely : Prop := fnExactPotentialAfterRow.holds Try.pinned (OpenSpec.ofChange fnExactPotentialAfterWrong)

/-- 'laws.FnExactApplyFaults': WHATEVER THE INPUT: true; the input reads as it did. -/
def fnExactApplyFaultsSpec : ChangeSpec := { name := "fnExactApplyFaults", fn := fun _ => fun
  | [d1, d2] => { results := [.lit (.bool true)], args := [d1, d2] }
  | _ => none }
def fnExactApplyFaultsRow : OpenClaim := { program := "ytadppokohnonpaa", sum := "79c9c8800346a2844adcd0bc9e24c5090e9cd2c3ea67e8d7737ddc45ae7a9ee4", func := "loop.example/g00905/laws.FnExactApplyFaults", spec := "fnExactApplyFaults", unfollowed := true, recurses := true, apart := false }
def FnExactApplyFaultsSaid : Prop := fnExactApplyFaultsRow.holds Try.pinned (OpenSpec.ofChange fnExactApplyFaultsSpec)

/-- ITS FALSE NEIGHBOUR: 'it returns false'. Refute it at one input. -/
def fnExactApplyFaultsWrong : ChangeSpec := { name := "fnExactApplyFaults", fn := fun _ => fun
  | [d1, d2] => { results := [.lit (.bool false)], args := [d1, d2] }
  | _ => none }
def FnExactApplyFaultsWrongFalsely : Prop := fnExactApplyFaultsRow.holds Try.pinned (OpenSpec.ofChange fnExactApplyFaultsWrong)

/-- 'laws.FnFaultsTwice': WHATEVER THE INPUT: true; the input reads as it did. -/
def fnFaultsTwiceSpec : ChangeSpec := { name := "fnFaultsTwice", fn := fun _ => fun
  | [d] => { results := [.lit (.bool true)], args := [d] }
  | _ => none }
def fnFaultsTwiceRow : OpenClaim := { program := "ytadppokohnonpaa", sum := "79c9c8800346a2844adcd0bc9e24c5090e9cd2c3ea67e8d7737ddc45ae7a9ee4", func := "loop.example/g00905/laws.FnFaultsTwice", spec := "fnFaultsTwice", unfollowed := true, recurses := true, apart := false }
def FnFaultsTwiceSaid : Prop := fnFaultsTwiceRow.holds Try.pinned (OpenSpec.ofChange fnFaultsTwiceSpec)

/-- ITS FALSE NEIGHBOUR: 'it returns false'. Refute it at one input. -/
def fnFaultsTwiceWrong : ChangeSpec := { name := "fnFaultsTwice", fn := fun _ => fun
  | [d] => { results := [.lit (.bool false)], args := [d] }
  | _ => none }
def FnFaultsTwiceWrongFalsely : Prop := fnFaultsTwiceRow.holds Try.pinned (OpenSpec.ofChange fnFaultsTwiceWrong)

/-- 'laws.FnMarkedBlocks': WHATEVER THE INPUT: true; the input reads as it did. -/
def fnMarkedBlocksSpec : ChangeSpec := { name := "fnMarkedBlocks", fn := fun _ => fun
  | [d] => { results := [.lit (.bool true)], args := [d] }
  | _ => none }
def fnMarkedBlocksRow : OpenClaim := { program := "ytadppokohnonpaa", sum := "79c9c8800346a2844adcd0bc9e24c5090e9cd2c3ea67e8d7737ddc45ae7a9ee4", func := "loop.example/g00905/laws.FnMarkedBlocks", spec := "fnMarkedBlocks", unfollowed := true, recurses := true, apart := false }
def FnMarkedBlocksSaid : Prop := fnMarkedBlocksRow.holds Try.pinned (OpenSpec.ofChange fnMarkedBlocksSpec)

/-- ITS FALSE NEIGHBOUR: 'it returns false'. Refute it at one input. -/
def fnMarkedBlocksWrong : ChangeSpec := { name := "fnMarkedBlocks", fn := fun _ => fun
  | [d] => { results := [.lit (.bool false)], args := [d] }
  | _ => none }
def FnMarkedBlocksWrongFalsely : Prop := fnMarkedBlocksRow.holds Try.pinned (OpenSpec.ofChange fnMarkedBlocksWrong)

/-- 'laws.FnFlashOrder': WHATEVER THE INPUT: true; the input reads as it did. -/
def fnFlashOrderSpec : ChangeSpec := { name := "fnFlashOrder", fn := fun _ => fun
  | [d1, d2] => { results := [.lit (.bool true)], args := [d1, d2] }
  | _ => none }
def fnFlashOrderRow : OpenClaim := { program := "ytadppokohnonpaa", sum := "79c9c8800346a2844adcd0bc9e24c5090e9cd2c3ea67e8d7737ddc45ae7a9ee4", func := "loop.example/g00905/laws.FnFlashOrder", spec := "fnFlashOrder", inPlace := ["internal/abi.NoEscape", "internal/bytealg.MakeNoZero"], unfollowed := true, recurses := true, apart := false }
def FnFlashOrderSaid : Prop := fnFlashOrderRow.holds Try.pinned (OpenSpec.ofChange fnFlashOrderSpec)

/-- ITS FALSE NEIGHBOUR: 'it returns false'. Refute it at one input. -/
def fnFlashOrderWrong : ChangeSpec := { name := "fnFlashOrder", fn := fun _ => fun
  | [d1, d2] => { results := [.lit (.bool false)], args := [d1, d2] }
  | _ => none }
def FnFlashOrderWrongFalsely : Prop := fnFlashOrderRow.holds Try.pinned (OpenSpec.ofChange fnFlashOrderWrong)

/-- 'laws.FnTornErase': WHATEVER THE INPUT: true; the input reads as it did. -/
def fnTornEraseSpec : ChangeSpec := { name := "fnTornErase", fn := fun _ => fun
  | [d1, d2] => { results := [.lit (.bool true)], args := [d1, d2] }
  | _ => none }
def fnTornEraseRow : OpenClaim := { program := "ytadppokohnonpaa", sum := "79c9c8800346a2844adcd0bc9e24c5090e9cd2c3ea67e8d7737ddc45ae7a9ee4", func := "loop.example/g00905/laws.FnTornErase", spec := "fnTornErase", inPlace := ["internal/abi.NoEscape", "internal/bytealg.MakeNoZero"], unfollowed := true, recurses := true, apart := false }
def FnTornEraseSaid : Prop := fnTornEraseRow.holds Try.pinned (OpenSpec.ofChange fnTornEraseSpec)

/-- ITS FALSE NEIGHBOUR: 'it returns false'. Refute it at one input. -/
def fnTornEraseWrong : ChangeSpec := { name := "fnTornErase", fn := fun _ => fun
  | [d1, d2] => { results := [.lit (.bool false)], args := [d1, d2] }
  | _ => none }
def FnTornEraseWrongFalsely : Prop := fnTornEraseRow.holds Try.pinned (OpenSpec.ofChange fnTornEraseWrong)

/-- 'laws.FnSecureErase': WHATEVER THE INPUT: true; the input reads as it did. -/
def fnSecureEraseSpec : ChangeSpec := { name := "fnSecureErase", fn := fun _ => fun
  | [d] => { results := [.lit (.bool true)], args := [d] }
  | _ => none }
def fnSecureEraseRow : OpenClaim := { program := "ytadppokohnonpaa", sum := "79c9c8800346a2844adcd0bc9e24c5090e9cd2c3ea67e8d7737ddc45ae7a9ee4", func := "loop.example/g00905/laws.FnSecureErase", spec := "fnSecureErase", inPlace := ["internal/abi.NoEscape", "internal/bytealg.MakeNoZero"], unfollowed := true, recurses := true, apart := false }
def FnSecureEraseSaid : Prop := fnSecureEraseRow.holds Try.pinned (OpenSpec.ofChange fnSecureEraseSpec)

/-- ITS FALSE NEIGHBOUR: 'it returns false'. Refute it at one input. -/
def fnSecureEraseWrong : ChangeSpec := { name := "fnSecureErase", fn := fun _ => fun
  | [d] => { results := [.lit (.bool false)], args := [d] }
  | _ => none }
def FnSecureEraseWrongFalsely : Prop := fnSecureEraseRow.holds Try.pinned (OpenSpec.ofChange fnSecureEraseWrong)

/- THE SECOND FORM. 'bulk': how many values and letters a reading holds, each counted each time it is reached (what is shared counts as often as it is met; a slice's spare places count too). A statement '..UptoSaid' is the law's where the arguments, and the package variables that the reading takes, are together of bulk at most 1048576: NARROWER than '..Said'. Prove '..Said' where nothing that the law and all that it calls make is longer than what came in: it says more and counts as full. Else prove '..UptoSaid'. A law counts once. -/
mutual
def uptoBulk {H : Type} : DataW H → Nat
  | .lit (.string bytes) => bytes.length + 1
  | .lit _ => 1
  | .nil => 1
  | .ptr d => uptoBulk d + 1
  | .slice elems spare => uptoBulkAll elems + uptoBulkAll spare + 1
  | .agg parts => uptoBulkAll parts + 1
  | .iface _ d => uptoBulk d + 1
  | .map entries => uptoBulkEntries entries + 1
  | .held _ => 1
def uptoBulkAll {H : Type} : List (DataW H) → Nat
  | [] => 0
  | d :: r => uptoBulk d + uptoBulkAll r
def uptoBulkEntries {H : Type} : List (Lit × DataW H) → Nat
  | [] => 0
  | x :: r => uptoBulkEntry x + uptoBulkEntries r
def uptoBulkEntry {H : Type} : Lit × DataW H → Nat
  | (.string bytes, d) => bytes.length + uptoBulk d + 1
  | (_, d) => uptoBulk d + 1
 end
def uptoSmall : (H : Type) → List (DataW H) → Bool := fun _ ds => decide (uptoBulkAll ds ≤ 1048576)
def OpenSpec.upto (s : _root_.Go.ChangeSpec) : _root_.Go.OpenSpec := { _root_.Go.OpenSpec.ofChange s with cond := some uptoSmall }

/-- 'laws.FnExactDecodeEdit', WHERE WHAT IT READS IS OF BULK AT MOST 1048576: true; the input reads as it did. -/
def fnExactDecodeEditUptoRow : OpenClaim := { program := "ytadppokohnonpaa", sum := "79c9c8800346a2844adcd0bc9e24c5090e9cd2c3ea67e8d7737ddc45ae7a9ee4", func := "loop.example/g00905/laws.FnExactDecodeEdit", spec := "fnExactDecodeEdit", unfollowed := true, recurses := true, apart := false, narrowed := true }
def FnExactDecodeEditUptoSaid : Prop := fnExactDecodeEditUptoRow.holds Try.pinned (OpenSpec.upto fnExactDecodeEditSpec)

/-- 'laws.FnExactDecodeVersion', WHERE WHAT IT READS IS OF BULK AT MOST 1048576: true; the input reads as it did. -/
def fnExactDecodeVersionUptoRow : OpenClaim := { program := "ytadppokohnonpaa", sum := "79c9c8800346a2844adcd0bc9e24c5090e9cd2c3ea67e8d7737ddc45ae7a9ee4", func := "loop.example/g00905/laws.FnExactDecodeVersion", spec := "fnExactDecodeVersion", inPlace := ["internal/bytealg.abigen_runtime_cmpstring"], unfollowed := true, recurses := true, apart := false, narrowed := true }
def FnExactDecodeVersionUptoSaid : Prop := fnExactDecodeVersionUptoRow.holds Try.pinned (OpenSpec.upto fnExactDecodeVersionSpec)

/-- 'laws.FnSpares', WHERE WHAT IT READS IS OF BULK AT MOST 1048576: true; the input reads as it did. -/
def fnSparesUptoRow : OpenClaim := { program := "ytadppokohnonpaa", sum := "79c9c8800346a2844adcd0bc9e24c5090e9cd2c3ea67e8d7737ddc45ae7a9ee4", func := "loop.example/g00905/laws.FnSpares", spec := "fnSpares", inPlace := ["slices.overlaps[int64]"], unfollowed := true, recurses := true, apart := false, narrowed := true }
def FnSparesUptoSaid : Prop := fnSparesUptoRow.holds Try.pinned (OpenSpec.upto fnSparesSpec)

/-- 'laws.FnFtlRecover', WHERE WHAT IT READS IS OF BULK AT MOST 1048576: true; the input reads as it did. -/
def fnFtlRecoverUptoRow : OpenClaim := { program := "ytadppokohnonpaa", sum := "79c9c8800346a2844adcd0bc9e24c5090e9cd2c3ea67e8d7737ddc45ae7a9ee4", func := "loop.example/g00905/laws.FnFtlRecover", spec := "fnFtlRecover", unfollowed := true, recurses := true, apart := false, narrowed := true }
def FnFtlRecoverUptoSaid : Prop := fnFtlRecoverUptoRow.holds Try.pinned (OpenSpec.upto fnFtlRecoverSpec)

/-- 'laws.FnExactPotentialAfter', WHERE WHAT IT READS IS OF BULK AT MOST 1048576: true; the input reads as it did. -/
def fnExactPotentialAfterUptoRow : OpenClaim := { program := "ytadppokohnonpaa", sum := "79c9c8800346a2844adcd0bc9e24c5090e9cd2c3ea67e8d7737ddc45ae7a9ee4", func := "loop.example/g00905/laws.FnExactPotentialAfter", spec := "fnExactPotentialAfter", inPlace := ["internal/bytealg.abigen_runtime_cmpstring"], unfollowed := true, recurses := true, apart := false, narrowed := true }
def FnExactPotentialAfterUptoSaid : Prop := fnExactPotentialAfterUptoRow.holds Try.pinned (OpenSpec.upto fnExactPotentialAfterSpec)

/-- 'laws.FnExactApplyFaults', WHERE WHAT IT READS IS OF BULK AT MOST 1048576: true; the input reads as it did. -/
def fnExactApplyFaultsUptoRow : OpenClaim := { program := "ytadppokohnonpaa", sum := "79c9c8800346a2844adcd0bc9e24c5090e9cd2c3ea67e8d7737ddc45ae7a9ee4", func := "loop.example/g00905/laws.FnExactApplyFaults", spec := "fnExactApplyFaults", unfollowed := true, recurses := true, apart := false, narrowed := true }
def FnExactApplyFaultsUptoSaid : Prop := fnExactApplyFaultsUptoRow.holds Try.pinned (OpenSpec.upto fnExactApplyFaultsSpec)

/-- 'laws.FnFaultsTwice', WHERE WHAT IT READS IS OF BULK AT MOST 1048576: true; the input reads as it did. -/
def fnFaultsTwiceUptoRow : OpenClaim := { program := "ytadppokohnonpaa", sum := "79c9c8800346a2844adcd0bc9e24c5090e9cd2c3ea67e8d7737ddc45ae7a9ee4", func := "loop.example/g00905/laws.FnFaultsTwice", spec := "fnFaultsTwice", unfollowed := true, recurses := true, apart := false, narrowed := true }
def FnFaultsTwiceUptoSaid : Prop := fnFaultsTwiceUptoRow.holds Try.pinned (OpenSpec.upto fnFaultsTwiceSpec)

/-- 'laws.FnMarkedBlocks', WHERE WHAT IT READS IS OF BULK AT MOST 1048576: true; the input reads as it did. -/
def fnMarkedBlocksUptoRow : OpenClaim := { program := "ytadppokohnonpaa", sum := "79c9c8800346a2844adcd0bc9e24c5090e9cd2c3ea67e8d7737ddc45ae7a9ee4", func := "loop.example/g00905/laws.FnMarkedBlocks", spec := "fnMarkedBlocks", unfollowed := true, recurses := true, apart := false, narrowed := true }
def FnMarkedBlocksUptoSaid : Prop := fnMarkedBlocksUptoRow.holds Try.pinned (OpenSpec.upto fnMarkedBlocksSpec)

/-- 'laws.FnFlashOrder', WHERE WHAT IT READS IS OF BULK AT MOST 1048576: true; the input reads as it did. -/
def fnFlashOrderUptoRow : OpenClaim := { program := "ytadppokohnonpaa", sum := "79c9c8800346a2844adcd0bc9e24c5090e9cd2c3ea67e8d7737ddc45ae7a9ee4", func := "loop.example/g00905/laws.FnFlashOrder", spec := "fnFlashOrder", inPlace := ["internal/abi.NoEscape", "internal/bytealg.MakeNoZero"], unfollowed := true, recurses := true, apart := false, narrowed := true }
def FnFlashOrderUptoSaid : Prop := fnFlashOrderUptoRow.holds Try.pinned (OpenSpec.upto fnFlashOrderSpec)

/-- 'laws.FnTornErase', WHERE WHAT IT READS IS OF BULK AT MOST 1048576: true; the input reads as it did. -/
def fnTornEraseUptoRow : OpenClaim := { program := "ytadppokohnonpaa", sum := "79c9c8800346a2844adcd0bc9e24c5090e9cd2c3ea67e8d7737ddc45ae7a9ee4", func := "loop.example/g00905/laws.FnTornErase", spec := "fnTornErase", inPlace := ["internal/abi.NoEscape", "internal/bytealg.MakeNoZero"], unfollowed := true, recurses := true, apart := false, narrowed := true }
def FnTornEraseUptoSaid : Prop := fnTornEraseUptoRow.holds Try.pinned (OpenSpec.upto fnTornEraseSpec)

/-- 'laws.FnSecureErase', WHERE WHAT IT READS IS OF BULK AT MOST 1048576: true; the input reads as it did. -/
def fnSecureEraseUptoRow : OpenClaim := { program := "ytadppokohnonpaa", sum := "79c9c8800346a2844adcd0bc9e24c5090e9cd2c3ea67e8d7737ddc45ae7a9ee4", func := "loop.example/g00905/laws.FnSecureErase", spec := "fnSecureErase", inPlace := ["internal/abi.NoEscape", "internal/bytealg.MakeNoZero"], unfollowed := true, recurses := true, apart := false, narrowed := true }
def FnSecureEraseUptoSaid : Prop := fnSecureEraseUptoRow.holds Try.pinned (OpenSpec.upto fnSecureEraseSpec)

end Rows
end Go.Proofs.Ytadppokohnonpaa

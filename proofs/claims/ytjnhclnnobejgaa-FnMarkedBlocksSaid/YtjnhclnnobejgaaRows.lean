/-
  No cell of these rows narrows 'for every input' (looked for: loops, veiled, ifaces, maps, wideKeys, modest, calm, conditions, laid).
  DERIVED. THE GIVEN ROWS OF THIS SEAT. 11 by the template 'for every input the law returns true; each argument reads behind the call as it read before'; 0 by the template 'total and deterministic' (their statements: YtjnhclnnobejgaaTotals.lean).
  GIVEN WITH THE SEED: the statements are not yours to turn. If you find one false, say at which input.
  Laid BY PROGRAM, IN A SANDBOX (cutbox-rows.mjs): the forced cells as the released guide's own fill.sh prints them over the translation e5e84d1e3064e7da… (all of the seat's roots in one cut). By AI agents, Wed Nov 11 2026. No macro, syntax, notation, axiom, sorry.
-/
import Derived.Test.YtjnhclnnobejgaaChecked
import GoSem.Claim
import GoSem.ClaimJoined
import GoSem.ClaimMapViews
import Derived.JoinedTies
import Derived.KernelRfl
namespace Go.Proofs.Ytjnhclnnobejgaa
/- THE CELL 'sum', in the pinned program and in every row, IS THE sha256 OF THE DUMP (.gsa) THAT YtjnhclnnobejgaaProg.lean LOADS. Nothing in Lean hashes anything: it is a label: what it is worth is what the hold of that sum in a sandbox is worth. -/
noncomputable def Try.pinned : Pinned := { name := "ytjnhclnnobejgaa", sum := "e5e84d1e3064e7dafe8097b785e20341c8437fdab5654d41c8c8d969049eeffe", checked := Try.checked }
namespace Rows
def none {H : Type} : Left H := { results := [], args := [] }

/-- 'laws.FnExactStatesAfter': WHATEVER THE INPUT: true; the input reads as it did. -/
def fnExactStatesAfterSpec : ChangeSpec := { name := "fnExactStatesAfter", fn := fun _ => fun
  | [d1, d2] => { results := [.lit (.bool true)], args := [d1, d2] }
  | _ => none }
def fnExactStatesAfterRow : OpenClaim := { program := "ytjnhclnnobejgaa", sum := "e5e84d1e3064e7dafe8097b785e20341c8437fdab5654d41c8c8d969049eeffe", func := "loop.example/g00905/laws.FnExactStatesAfter", spec := "fnExactStatesAfter", inPlace := ["internal/bytealg.abigen_runtime_cmpstring", "slices.overlaps[loop.example/g00905/impl.Pair]"], unfollowed := true, recurses := true, apart := false }
def FnExactStatesAfterSaid : Prop := fnExactStatesAfterRow.holds Try.pinned (OpenSpec.ofChange fnExactStatesAfterSpec)

/-- ITS FALSE NEIGHBOUR: 'it returns false'. Refute it at one input. -/
def fnExactStatesAfterWrong : ChangeSpec := { name := "fnExactStatesAfter", fn := fun _ => fun
  | [d1, d2] => { results := [.lit (.bool false)], args := [d1, d2] }
  | _ => none }
def FnExactStatesAfterWrongFalsely : Prop := fnExactStatesAfterRow.holds Try.pinned (OpenSpec.ofChange fnExactStatesAfterWrong)

/-- 'laws.FnExactApplyFault': WHATEVER THE INPUT: true; the input reads as it did. -/
def fnExactApplyFaultSpec : ChangeSpec := { name := "fnExactApplyFault", fn := fun _ => fun
  | [d1, d2] => { results := [.lit (.bool true)], args := [d1, d2] }
  | _ => none }
def fnExactApplyFaultRow : OpenClaim := { program := "ytjnhclnnobejgaa", sum := "e5e84d1e3064e7dafe8097b785e20341c8437fdab5654d41c8c8d969049eeffe", func := "loop.example/g00905/laws.FnExactApplyFault", spec := "fnExactApplyFault", unfollowed := true, recurses := true, apart := false }
def FnExactApplyFaultSaid : Prop := fnExactApplyFaultRow.holds Try.pinned (OpenSpec.ofChange fnExactApplyFaultSpec)

/-- ITS FALSE NEIGHBOUR: 'it returns false'. Refute it at one input. -/
def fnExactApplyFaultWrong : ChangeSpec := { name := "fnExactApplyFault", fn := fun _ => fun
  | [d1, d2] => { results := [.lit (.bool false)], args := [d1, d2] }
  | _ => none }
def FnExactApplyFaultWrongFalsely : Prop := fnExactApplyFaultRow.holds Try.pinned (OpenSpec.ofChange fnExactApplyFaultWrong)

/-- 'laws.FnExactApplyFaults': WHATEVER THE INPUT: true; the input reads as it did. -/
def fnExactApplyFaultsSpec : ChangeSpec := { name := "fnExactApplyFaults", fn := fun _ => fun
  | [d1, d2] => { results := [.lit (.bool true)], args := [d1, d2] }
  | _ => none }
def fnExactApplyFaultsRow : OpenClaim := { program := "ytjnhclnnobejgaa", sum := "e5e84d1e3064e7dafe8097b785e20341c8437fdab5654d41c8c8d969049eeffe", func := "loop.example/g00905/laws.FnExactApplyFaults", spec := "fnExactApplyFaults", unfollowed := true, recurses := true, apart := false }
def FnExactApplyFaultsSaid : Prop := fnExactApplyFaultsRow.holds Try.pinned (OpenSpec.ofChange fnExactApplyFaultsSpec)

/-- ITS FALSE NEIGHBOUR: 'it returns false'. Refute it at one input. -/
def fnExactApplyFaultsWrong : ChangeSpec := { name := "fnExactApplyFaults", fn := fun _ => fun
  | [d1, d2] => { results := [.lit (.bool false)], args := [d1, d2] }
  | _ => none }
def FnExactApplyFaultsWrongFalsely : Prop := fnExactApplyFaultsRow.holds Try.pinned (OpenSpec.ofChange fnExactApplyFaultsWrong)

/-- 'laws.FnExactRunWipe': WHATEVER THE INPUT: true; the input reads as it did. -/
def fnExactRunWipeSpec : ChangeSpec := { name := "fnExactRunWipe", fn := fun _ => fun
  | [d1, d2] => { results := [.lit (.bool true)], args := [d1, d2] }
  | _ => none }
def fnExactRunWipeRow : OpenClaim := { program := "ytjnhclnnobejgaa", sum := "e5e84d1e3064e7dafe8097b785e20341c8437fdab5654d41c8c8d969049eeffe", func := "loop.example/g00905/laws.FnExactRunWipe", spec := "fnExactRunWipe", inPlace := ["internal/abi.NoEscape", "internal/bytealg.MakeNoZero"], unfollowed := true, recurses := true, apart := false }
def FnExactRunWipeSaid : Prop := fnExactRunWipeRow.holds Try.pinned (OpenSpec.ofChange fnExactRunWipeSpec)

/-- ITS FALSE NEIGHBOUR: 'it returns false'. Refute it at one input. -/
def fnExactRunWipeWrong : ChangeSpec := { name := "fnExactRunWipe", fn := fun _ => fun
  | [d1, d2] => { results := [.lit (.bool false)], args := [d1, d2] }
  | _ => none }
def FnExactRunWipeWrongFalsely : Prop := fnExactRunWipeRow.holds Try.pinned (OpenSpec.ofChange fnExactRunWipeWrong)

/-- 'laws.FnFaultsTwice': WHATEVER THE INPUT: true; the input reads as it did. -/
def fnFaultsTwiceSpec : ChangeSpec := { name := "fnFaultsTwice", fn := fun _ => fun
  | [d] => { results := [.lit (.bool true)], args := [d] }
  | _ => none }
def fnFaultsTwiceRow : OpenClaim := { program := "ytjnhclnnobejgaa", sum := "e5e84d1e3064e7dafe8097b785e20341c8437fdab5654d41c8c8d969049eeffe", func := "loop.example/g00905/laws.FnFaultsTwice", spec := "fnFaultsTwice", unfollowed := true, recurses := true, apart := false }
def FnFaultsTwiceSaid : Prop := fnFaultsTwiceRow.holds Try.pinned (OpenSpec.ofChange fnFaultsTwiceSpec)

/-- ITS FALSE NEIGHBOUR: 'it returns false'. Refute it at one input. -/
def fnFaultsTwiceWrong : ChangeSpec := { name := "fnFaultsTwice", fn := fun _ => fun
  | [d] => { results := [.lit (.bool false)], args := [d] }
  | _ => none }
def FnFaultsTwiceWrongFalsely : Prop := fnFaultsTwiceRow.holds Try.pinned (OpenSpec.ofChange fnFaultsTwiceWrong)

/-- 'laws.FnMarkedBlocks': WHATEVER THE INPUT: true; the input reads as it did. -/
def fnMarkedBlocksSpec : ChangeSpec := { name := "fnMarkedBlocks", fn := fun _ => fun
  | [d] => { results := [.lit (.bool true)], args := [d] }
  | _ => none }
def fnMarkedBlocksRow : OpenClaim := { program := "ytjnhclnnobejgaa", sum := "e5e84d1e3064e7dafe8097b785e20341c8437fdab5654d41c8c8d969049eeffe", func := "loop.example/g00905/laws.FnMarkedBlocks", spec := "fnMarkedBlocks", unfollowed := true, recurses := true, apart := false }
def FnMarkedBlocksSaid : Prop := fnMarkedBlocksRow.holds Try.pinned (OpenSpec.ofChange fnMarkedBlocksSpec)

/-- ITS FALSE NEIGHBOUR: 'it returns false'. Refute it at one input. -/
def fnMarkedBlocksWrong : ChangeSpec := { name := "fnMarkedBlocks", fn := fun _ => fun
  | [d] => { results := [.lit (.bool false)], args := [d] }
  | _ => none }
def FnMarkedBlocksWrongFalsely : Prop := fnMarkedBlocksRow.holds Try.pinned (OpenSpec.ofChange fnMarkedBlocksWrong)

/-- 'laws.FnFlashOrder': WHATEVER THE INPUT: true; the input reads as it did. -/
def fnFlashOrderSpec : ChangeSpec := { name := "fnFlashOrder", fn := fun _ => fun
  | [d1, d2] => { results := [.lit (.bool true)], args := [d1, d2] }
  | _ => none }
def fnFlashOrderRow : OpenClaim := { program := "ytjnhclnnobejgaa", sum := "e5e84d1e3064e7dafe8097b785e20341c8437fdab5654d41c8c8d969049eeffe", func := "loop.example/g00905/laws.FnFlashOrder", spec := "fnFlashOrder", inPlace := ["internal/abi.NoEscape", "internal/bytealg.MakeNoZero"], unfollowed := true, recurses := true, apart := false }
def FnFlashOrderSaid : Prop := fnFlashOrderRow.holds Try.pinned (OpenSpec.ofChange fnFlashOrderSpec)

/-- ITS FALSE NEIGHBOUR: 'it returns false'. Refute it at one input. -/
def fnFlashOrderWrong : ChangeSpec := { name := "fnFlashOrder", fn := fun _ => fun
  | [d1, d2] => { results := [.lit (.bool false)], args := [d1, d2] }
  | _ => none }
def FnFlashOrderWrongFalsely : Prop := fnFlashOrderRow.holds Try.pinned (OpenSpec.ofChange fnFlashOrderWrong)

/-- 'laws.FnTornErase': WHATEVER THE INPUT: true; the input reads as it did. -/
def fnTornEraseSpec : ChangeSpec := { name := "fnTornErase", fn := fun _ => fun
  | [d1, d2] => { results := [.lit (.bool true)], args := [d1, d2] }
  | _ => none }
def fnTornEraseRow : OpenClaim := { program := "ytjnhclnnobejgaa", sum := "e5e84d1e3064e7dafe8097b785e20341c8437fdab5654d41c8c8d969049eeffe", func := "loop.example/g00905/laws.FnTornErase", spec := "fnTornErase", inPlace := ["internal/abi.NoEscape", "internal/bytealg.MakeNoZero"], unfollowed := true, recurses := true, apart := false }
def FnTornEraseSaid : Prop := fnTornEraseRow.holds Try.pinned (OpenSpec.ofChange fnTornEraseSpec)

/-- ITS FALSE NEIGHBOUR: 'it returns false'. Refute it at one input. -/
def fnTornEraseWrong : ChangeSpec := { name := "fnTornErase", fn := fun _ => fun
  | [d1, d2] => { results := [.lit (.bool false)], args := [d1, d2] }
  | _ => none }
def FnTornEraseWrongFalsely : Prop := fnTornEraseRow.holds Try.pinned (OpenSpec.ofChange fnTornEraseWrong)

/-- 'laws.FnSecureErase': WHATEVER THE INPUT: true; the input reads as it did. -/
def fnSecureEraseSpec : ChangeSpec := { name := "fnSecureErase", fn := fun _ => fun
  | [d] => { results := [.lit (.bool true)], args := [d] }
  | _ => none }
def fnSecureEraseRow : OpenClaim := { program := "ytjnhclnnobejgaa", sum := "e5e84d1e3064e7dafe8097b785e20341c8437fdab5654d41c8c8d969049eeffe", func := "loop.example/g00905/laws.FnSecureErase", spec := "fnSecureErase", inPlace := ["internal/abi.NoEscape", "internal/bytealg.MakeNoZero"], unfollowed := true, recurses := true, apart := false }
def FnSecureEraseSaid : Prop := fnSecureEraseRow.holds Try.pinned (OpenSpec.ofChange fnSecureEraseSpec)

/-- ITS FALSE NEIGHBOUR: 'it returns false'. Refute it at one input. -/
def fnSecureEraseWrong : ChangeSpec := { name := "fnSecureErase", fn := fun _ => fun
  | [d] => { results := [.lit (.bool false)], args := [d] }
  | _ => none }
def FnSecureEraseWrongFalsely : Prop := fnSecureEraseRow.holds Try.pinned (OpenSpec.ofChange fnSecureEraseWrong)

/-- 'laws.FnExactResetZone': WHATEVER THE INPUT: true; the input reads as it did. -/
def fnExactResetZoneSpec : ChangeSpec := { name := "fnExactResetZone", fn := fun _ => fun
  | [d1, d2] => { results := [.lit (.bool true)], args := [d1, d2] }
  | _ => none }
def fnExactResetZoneRow : OpenClaim := { program := "ytjnhclnnobejgaa", sum := "e5e84d1e3064e7dafe8097b785e20341c8437fdab5654d41c8c8d969049eeffe", func := "loop.example/g00905/laws.FnExactResetZone", spec := "fnExactResetZone", unfollowed := true, recurses := true, apart := false }
def FnExactResetZoneSaid : Prop := fnExactResetZoneRow.holds Try.pinned (OpenSpec.ofChange fnExactResetZoneSpec)

/-- ITS FALSE NEIGHBOUR: 'it returns false'. Refute it at one input. -/
def fnExactResetZoneWrong : ChangeSpec := { name := "fnExactResetZone", fn := fun _ => fun
  | [d1, d2] => { results := [.lit (.bool false)], args := [d1, d2] }
  | _ => none }
def FnExactResetZoneWrongFalsely : Prop := fnExactResetZoneRow.holds Try.pinned (OpenSpec.ofChange fnExactResetZoneWrong)

/-- 'laws.FnCodec': WHATEVER THE INPUT: true; the input reads as it did. -/
def fnCodecSpec : ChangeSpec := { name := "fnCodec", fn := fun _ => fun
  | [d1, d2] => { results := [.lit (.bool true)], args := [d1, d2] }
  | _ => none }
def fnCodecRow : OpenClaim := { program := "ytjnhclnnobejgaa", sum := "e5e84d1e3064e7dafe8097b785e20341c8437fdab5654d41c8c8d969049eeffe", func := "loop.example/g00905/laws.FnCodec", spec := "fnCodec", apart := false }
def FnCodecSaid : Prop := fnCodecRow.holds Try.pinned (OpenSpec.ofChange fnCodecSpec)

/-- ITS FALSE NEIGHBOUR: 'it returns false'. Refute it at one input. -/
def fnCodecWrong : ChangeSpec := { name := "fnCodec", fn := fun _ => fun
  | [d1, d2] => { results := [.lit (.bool false)], args := [d1, d2] }
  | _ => none }
def FnCodecWrongFalsely : Prop := fnCodecRow.holds Try.pinned (OpenSpec.ofChange fnCodecWrong)

/- THE SECOND FORM. 'bulk': how many values and letters a reading holds, each counted each time it is reached (what is shared counts as often as it is met; a slice's spare places count too). A statement '..UptoSaid' is the law's where the arguments, and the package variables that the reading takes, are together of bulk at most 1048576: NARROWER than '..Said'. Prove '..Said' where nothing that the law and all that it calls make is longer than what came in: it says more and counts as full. Else prove '..UptoSaid'. A law counts once. -/
mutual
def uptoBulk {H : Type} : DataW H → Nat
  | .lit (.string bytes) => bytes.length + 1
  | .lit _ => 1
  | .nil => 1
  | .ptr d => uptoBulk d + 1
  | .slice elems spare => uptoBulkAll elems + uptoBulkAll spare + 1
  | .agg parts => uptoBulkAll parts + 1
  | .iface _ d => uptoBulk d + 1
  | .map entries => uptoBulkEntries entries + 1
  | .held _ => 1
def uptoBulkAll {H : Type} : List (DataW H) → Nat
  | [] => 0
  | d :: r => uptoBulk d + uptoBulkAll r
def uptoBulkEntries {H : Type} : List (Lit × DataW H) → Nat
  | [] => 0
  | x :: r => uptoBulkEntry x + uptoBulkEntries r
def uptoBulkEntry {H : Type} : Lit × DataW H → Nat
  | (.string bytes, d) => bytes.length + uptoBulk d + 1
  | (_, d) => uptoBulk d + 1
 end
def uptoSmall : (H : Type) → List (DataW H) → Bool := fun _ ds => decide (uptoBulkAll ds ≤ 1048576)
def OpenSpec.upto (s : _root_.Go.ChangeSpec) : _root_.Go.OpenSpec := { _root_.Go.OpenSpec.ofChange s with cond := some uptoSmall }

/-- 'laws.FnExactStatesAfter', WHERE WHAT IT READS IS OF BULK AT MOST 1048576: true; the input reads as it did. -/
def fnExactStatesAfterUptoRow : OpenClaim := { program := "ytjnhclnnobejgaa", sum := "e5e84d1e3064e7dafe8097b785e20341c8437fdab5654d41c8c8d969049eeffe", func := "loop.example/g00905/laws.FnExactStatesAfter", spec := "fnExactStatesAfter", inPlace := ["internal/bytealg.abigen_runtime_cmpstring", "slices.overlaps[loop.example/g00905/impl.Pair]"], unfollowed := true, recurses := true, apart := false, narrowed := true }
def FnExactStatesAfterUptoSaid : Prop := fnExactStatesAfterUptoRow.holds Try.pinned (OpenSpec.upto fnExactStatesAfterSpec)

/-- 'laws.FnExactApplyFault', WHERE WHAT IT READS IS OF BULK AT MOST 1048576: true; the input reads as it did. -/
def fnExactApplyFaultUptoRow : OpenClaim := { program := "ytjnhclnnobejgaa", sum := "e5e84d1e3064e7dafe8097b785e20341c8437fdab5654d41c8c8d969049eeffe", func := "loop.example/g00905/laws.FnExactApplyFault", spec := "fnExactApplyFault", unfollowed := true, recurses := true, apart := false, narrowed := true }
def FnExactApplyFaultUptoSaid : Prop := fnExactApplyFaultUptoRow.holds Try.pinned (OpenSpec.upto fnExactApplyFaultSpec)

/-- 'laws.FnExactApplyFaults', WHERE WHAT IT READS IS OF BULK AT MOST 1048576: true; the input reads as it did. -/
def fnExactApplyFaultsUptoRow : OpenClaim := { program := "ytjnhclnnobejgaa", sum := "e5e84d1e3064e7dafe8097b785e20341c8437fdab5654d41c8c8d969049eeffe", func := "loop.example/g00905/laws.FnExactApplyFaults", spec := "fnExactApplyFaults", unfollowed := true, recurses := true, apart := false, narrowed := true }
def FnExactApplyFaultsUptoSaid : Prop := fnExactApplyFaultsUptoRow.holds Try.pinned (OpenSpec.upto fnExactApplyFaultsSpec)

/-- 'laws.FnExactRunWipe', WHERE WHAT IT READS IS OF BULK AT MOST 1048576: true; the input reads as it did. -/
def fnExactRunWipeUptoRow : OpenClaim := { program := "ytjnhclnnobejgaa", sum := "e5e84d1e3064e7dafe8097b785e20341c8437fdab5654d41c8c8d969049eeffe", func := "loop.example/g00905/laws.FnExactRunWipe", spec := "fnExactRunWipe", inPlace := ["internal/abi.NoEscape", "internal/bytealg.MakeNoZero"], unfollowed := true, recurses := true, apart := false, narrowed := true }
def FnExactRunWipeUptoSaid : Prop := fnExactRunWipeUptoRow.holds Try.pinned (OpenSpec.upto fnExactRunWipeSpec)

/-- 'laws.FnFaultsTwice', WHERE WHAT IT READS IS OF BULK AT MOST 1048576: true; the input reads as it did. -/
def fnFaultsTwiceUptoRow : OpenClaim := { program := "ytjnhclnnobejgaa", sum := "e5e84d1e3064e7dafe8097b785e20341c8437fdab5654d41c8c8d969049eeffe", func := "loop.example/g00905/laws.FnFaultsTwice", spec := "fnFaultsTwice", unfollowed := true, recurses := true, apart := false, narrowed := true }
def FnFaultsTwiceUptoSaid : Prop := fnFaultsTwiceUptoRow.holds Try.pinned (OpenSpec.upto fnFaultsTwiceSpec)

/-- 'laws.FnMarkedBlocks', WHERE WHAT IT READS IS OF BULK AT MOST 1048576: true; the input reads as it did. -/
def fnMarkedBlocksUptoRow : OpenClaim := { program := "ytjnhclnnobejgaa", sum := "e5e84d1e3064e7dafe8097b785e20341c8437fdab5654d41c8c8d969049eeffe", func := "loop.example/g00905/laws.FnMarkedBlocks", spec := "fnMarkedBlocks", unfollowed := true, recurses := true, apart := false, narrowed := true }
def FnMarkedBlocksUptoSaid : Prop := fnMarkedBlocksUptoRow.holds Try.pinned (OpenSpec.upto fnMarkedBlocksSpec)

/-- 'laws.FnFlashOrder', WHERE WHAT IT READS IS OF BULK AT MOST 1048576: true; the input reads as it did. -/
def fnFlashOrderUptoRow : OpenClaim := { program := "ytjnhclnnobejgaa", sum := "e5e84d1e3064e7dafe8097b785e20341c8437fdab5654d41c8c8d969049eeffe", func := "loop.example/g00905/laws.FnFlashOrder", spec := "fnFlashOrder", inPlace := ["internal/abi.NoEscape", "internal/bytealg.MakeNoZero"], unfollowed := true, recurses := true, apart := false, narrowed := true }
def FnFlashOrderUptoSaid : Prop := fnFlashOrderUptoRow.holds Try.pinned (OpenSpec.upto fnFlashOrderSpec)

/-- 'laws.FnTornErase', WHERE WHAT IT READS IS OF BULK AT MOST 1048576: true; the input reads as it did. -/
def fnTornEraseUptoRow : OpenClaim := { program := "ytjnhclnnobejgaa", sum := "e5e84d1e3064e7dafe8097b785e20341c8437fdab5654d41c8c8d969049eeffe", func := "loop.example/g00905/laws.FnTornErase", spec := "fnTornErase", inPlace := ["internal/abi.NoEscape", "internal/bytealg.MakeNoZero"], unfollowed := true, recurses := true, apart := false, narrowed := true }
def FnTornEraseUptoSaid : Prop := fnTornEraseUptoRow.holds Try.pinned (OpenSpec.upto fnTornEraseSpec)

/-- 'laws.FnSecureErase', WHERE WHAT IT READS IS OF BULK AT MOST 1048576: true; the input reads as it did. -/
def fnSecureEraseUptoRow : OpenClaim := { program := "ytjnhclnnobejgaa", sum := "e5e84d1e3064e7dafe8097b785e20341c8437fdab5654d41c8c8d969049eeffe", func := "loop.example/g00905/laws.FnSecureErase", spec := "fnSecureErase", inPlace := ["internal/abi.NoEscape", "internal/bytealg.MakeNoZero"], unfollowed := true, recurses := true, apart := false, narrowed := true }
def FnSecureEraseUptoSaid : Prop := fnSecureEraseUptoRow.holds Try.pinned (OpenSpec.upto fnSecureEraseSpec)

/-- 'laws.FnExactResetZone', WHERE WHAT IT READS IS OF BULK AT MOST 1048576: true; the input reads as it did. -/
def fnExactResetZoneUptoRow : OpenClaim := { program := "ytjnhclnnobejgaa", sum := "e5e84d1e3064e7dafe8097b785e20341c8437fdab5654d41c8c8d969049eeffe", func := "loop.example/g00905/laws.FnExactResetZone", spec := "fnExactResetZone", unfollowed := true, recurses := true, apart := false, narrowed := true }
def FnExactResetZoneUptoSaid : Prop := fnExactResetZoneUptoRow.holds Try.pinned (OpenSpec.upto fnExactResetZoneSpec)

/-- 'laws.FnCodec', WHERE WHAT IT READS IS OF BULK AT MOST 1048576: true; the input reads as it did. -/
def fnCodecUptoRow : OpenClaim := { program := "ytjnhclnnobejgaa", sum := "e5e84d1e3064e7dafe8097b785e20341c8437fdab5654d41c8c8d969049eeffe", func := "loop.example/g00905/laws.FnCodec", spec := "fnCodec", apart := false, narrowed := true }
def FnCodecUptoSaid : Prop := fnCodecUptoRow.holds Try.pinned (OpenSpec.upto fnCodecSpec)

end Rows
end Go.Proofs.Ytjnhclnnobejgaa

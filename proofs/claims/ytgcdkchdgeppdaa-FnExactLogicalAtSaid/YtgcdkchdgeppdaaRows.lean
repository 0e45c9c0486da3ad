/-
  No cell of these rows narrows 'for every input' (looked for: loops, veiled, ifaces, maps, wideKeys, modest, calm, conditions, laid).
  DERIVED. THE GIVEN ROWS OF THIS SEAT. 12 by the template 'for every input the law returns true; each argument reads behind the call as it read before'; 0 by the template 'total and deterministic' (their statements: YtgcdkchdgeppdaaTotals.lean).
  GIVEN WITH THE SEED: the statements are not yours to turn. If you find one false, say at which input.
  Laid BY PROGRAM, IN A SANDBOX (cutbox-rows.mjs): the forced cells as the released guide's own fill.sh prints them over the translation 8b2edab8e4151dd3… (all of the seat's roots in one cut). By AI agents, Wed Nov 11 2026. No macro, syntax, notation, axiom, sorry.
-/
import Derived.Test.YtgcdkchdgeppdaaChecked
import GoSem.Claim
import GoSem.ClaimJoined
import GoSem.ClaimMapViews
import Derived.JoinedTies
import Derived.KernelRfl
namespace Go.Proofs.Ytgcdkchdgeppdaa
/- THE CELL 'sum', in the pinned program and in every row, IS THE sha256 OF THE DUMP (.gsa) THAT YtgcdkchdgeppdaaProg.lean LOADS. Nothing in Lean hashes anything: it is a label: what it is worth is what the hold of that sum in a sandbox is worth. -/
noncomputable def Try.pinned : Pinned := { name := "ytgcdkchdgeppdaa", sum := "8b2edab8e4151dd3d596b3596298a5ee95fb90d72210f5122f4ca95fe68b53d8", checked := Try.checked }
namespace Rows
def none {H : Type} : Left H := { results := [], args := [] }

/-- 'laws.FnExactProgramsFor': WHATEVER THE INPUT: true; the input reads as it did. -/
def fnExactProgramsForSpec : ChangeSpec := { name := "fnExactProgramsFor", fn := fun _ => fun
  | [d1, d2] => { results := [.lit (.bool true)], args := [d1, d2] }
  | _ => none }
def fnExactProgramsForRow : OpenClaim := { program := "ytgcdkchdgeppdaa", sum := "8b2edab8e4151dd3d596b3596298a5ee95fb90d72210f5122f4ca95fe68b53d8", func := "loop.example/g00905/laws.FnExactProgramsFor", spec := "fnExactProgramsFor", apart := false }
def FnExactProgramsForSaid : Prop := fnExactProgramsForRow.holds Try.pinned (OpenSpec.ofChange fnExactProgramsForSpec)

/-- ITS FALSE NEIGHBOUR: 'it returns false'. Refute it at one input. -/
def fnExactProgramsForWrong : ChangeSpec := { name := "fnExactProgramsFor", fn := fun _ => fun
  | [d1, d2] => { results := [.lit (.bool false)], args := [d1, d2] }
  | _ => none }
def FnExactProgramsForWrongFalsely : Prop := fnExactProgramsForRow.holds Try.pinned (OpenSpec.ofChange fnExactProgramsForWrong)

/-- 'laws.FnLfsr': WHATEVER THE INPUT: true; the input reads as it did. -/
def fnLfsrSpec : ChangeSpec := { name := "fnLfsr", fn := fun _ => fun
  | [d1, d2] => { results := [.lit (.bool true)], args := [d1, d2] }
  | _ => none }
def fnLfsrRow : OpenClaim := { program := "ytgcdkchdgeppdaa", sum := "8b2edab8e4151dd3d596b3596298a5ee95fb90d72210f5122f4ca95fe68b53d8", func := "loop.example/g00905/laws.FnLfsr", spec := "fnLfsr", apart := false }
def FnLfsrSaid : Prop := fnLfsrRow.holds Try.pinned (OpenSpec.ofChange fnLfsrSpec)

/-- ITS FALSE NEIGHBOUR: 'it returns false'. Refute it at one input. -/
def fnLfsrWrong : ChangeSpec := { name := "fnLfsr", fn := fun _ => fun
  | [d1, d2] => { results := [.lit (.bool false)], args := [d1, d2] }
  | _ => none }
def FnLfsrWrongFalsely : Prop := fnLfsrRow.holds Try.pinned (OpenSpec.ofChange fnLfsrWrong)

/-- 'laws.FnExactAllGood': WHATEVER THE INPUT: true; the input reads as it did. -/
def fnExactAllGoodSpec : ChangeSpec := { name := "fnExactAllGood", fn := fun _ => fun
  | [d] => { results := [.lit (.bool true)], args := [d] }
  | _ => none }
def fnExactAllGoodRow : OpenClaim := { program := "ytgcdkchdgeppdaa", sum := "8b2edab8e4151dd3d596b3596298a5ee95fb90d72210f5122f4ca95fe68b53d8", func := "loop.example/g00905/laws.FnExactAllGood", spec := "fnExactAllGood", unfollowed := true, recurses := true, apart := false }
def FnExactAllGoodSaid : Prop := fnExactAllGoodRow.holds Try.pinned (OpenSpec.ofChange fnExactAllGoodSpec)

/-- ITS FALSE NEIGHBOUR: 'it returns false'. Refute it at one input. -/
def fnExactAllGoodWrong : ChangeSpec := { name := "fnExactAllGood", fn := fun _ => fun
  | [d] => { results := [.lit (.bool false)], args := [d] }
  | _ => none }
def FnExactAllGoodWrongFalsely : Prop := fnExactAllGoodRow.holds Try.pinned (OpenSpec.ofChange fnExactAllGoodWrong)

/-- 'laws.FnExactMostLost': WHATEVER THE INPUT: true; the input reads as it did. -/
def fnExactMostLostSpec : ChangeSpec := { name := "fnExactMostLost", fn := fun _ => fun
  | [d] => { results := [.lit (.bool true)], args := [d] }
  | _ => none }
def fnExactMostLostRow : OpenClaim := { program := "ytgcdkchdgeppdaa", sum := "8b2edab8e4151dd3d596b3596298a5ee95fb90d72210f5122f4ca95fe68b53d8", func := "loop.example/g00905/laws.FnExactMostLost", spec := "fnExactMostLost", apart := false }
def FnExactMostLostSaid : Prop := fnExactMostLostRow.holds Try.pinned (OpenSpec.ofChange fnExactMostLostSpec)

/-- ITS FALSE NEIGHBOUR: 'it returns false'. Refute it at one input. -/
def fnExactMostLostWrong : ChangeSpec := { name := "fnExactMostLost", fn := fun _ => fun
  | [d] => { results := [.lit (.bool false)], args := [d] }
  | _ => none }
def FnExactMostLostWrongFalsely : Prop := fnExactMostLostRow.holds Try.pinned (OpenSpec.ofChange fnExactMostLostWrong)

/-- 'laws.FnScramble': WHATEVER THE INPUT: true; the input reads as it did. -/
def fnScrambleSpec : ChangeSpec := { name := "fnScramble", fn := fun _ => fun
  | [d1, d2] => { results := [.lit (.bool true)], args := [d1, d2] }
  | _ => none }
def fnScrambleRow : OpenClaim := { program := "ytgcdkchdgeppdaa", sum := "8b2edab8e4151dd3d596b3596298a5ee95fb90d72210f5122f4ca95fe68b53d8", func := "loop.example/g00905/laws.FnScramble", spec := "fnScramble", apart := false }
def FnScrambleSaid : Prop := fnScrambleRow.holds Try.pinned (OpenSpec.ofChange fnScrambleSpec)

/-- ITS FALSE NEIGHBOUR: 'it returns false'. Refute it at one input. -/
def fnScrambleWrong : ChangeSpec := { name := "fnScramble", fn := fun _ => fun
  | [d1, d2] => { results := [.lit (.bool false)], args := [d1, d2] }
  | _ => none }
def FnScrambleWrongFalsely : Prop := fnScrambleRow.holds Try.pinned (OpenSpec.ofChange fnScrambleWrong)

/-- 'laws.FnRandomFaults': WHATEVER THE INPUT: true; the input reads as it did. -/
def fnRandomFaultsSpec : ChangeSpec := { name := "fnRandomFaults", fn := fun _ => fun
  | [d] => { results := [.lit (.bool true)], args := [d] }
  | _ => none }
def fnRandomFaultsRow : OpenClaim := { program := "ytgcdkchdgeppdaa", sum := "8b2edab8e4151dd3d596b3596298a5ee95fb90d72210f5122f4ca95fe68b53d8", func := "loop.example/g00905/laws.FnRandomFaults", spec := "fnRandomFaults", unfollowed := true, recurses := true, apart := false }
def FnRandomFaultsSaid : Prop := fnRandomFaultsRow.holds Try.pinned (OpenSpec.ofChange fnRandomFaultsSpec)

/-- ITS FALSE NEIGHBOUR: 'it returns false'. Refute it at one input. -/
def fnRandomFaultsWrong : ChangeSpec := { name := "fnRandomFaults", fn := fun _ => fun
  | [d] => { results := [.lit (.bool false)], args := [d] }
  | _ => none }
def FnRandomFaultsWrongFalsely : Prop := fnRandomFaultsRow.holds Try.pinned (OpenSpec.ofChange fnRandomFaultsWrong)

/-- 'laws.FnExactValidDbAct': WHATEVER THE INPUT: true; the input reads as it did. -/
def fnExactValidDbActSpec : ChangeSpec := { name := "fnExactValidDbAct", fn := fun _ => fun
  | [d] => { results := [.lit (.bool true)], args := [d] }
  | _ => none }
def fnExactValidDbActRow : OpenClaim := { program := "ytgcdkchdgeppdaa", sum := "8b2edab8e4151dd3d596b3596298a5ee95fb90d72210f5122f4ca95fe68b53d8", func := "loop.example/g00905/laws.FnExactValidDbAct", spec := "fnExactValidDbAct", apart := false }
def FnExactValidDbActSaid : Prop := fnExactValidDbActRow.holds Try.pinned (OpenSpec.ofChange fnExactValidDbActSpec)

/-- ITS FALSE NEIGHBOUR: 'it returns false'. Refute it at one input. -/
def fnExactValidDbActWrong : ChangeSpec := { name := "fnExactValidDbAct", fn := fun _ => fun
  | [d] => { results := [.lit (.bool false)], args := [d] }
  | _ => none }
def FnExactValidDbActWrongFalsely : Prop := fnExactValidDbActRow.holds Try.pinned (OpenSpec.ofChange fnExactValidDbActWrong)

/-- 'laws.FnDropHidden': WHATEVER THE INPUT: true; the input reads as it did. -/
def fnDropHiddenSpec : ChangeSpec := { name := "fnDropHidden", fn := fun _ => fun
  | [d] => { results := [.lit (.bool true)], args := [d] }
  | _ => none }
def fnDropHiddenRow : OpenClaim := { program := "ytgcdkchdgeppdaa", sum := "8b2edab8e4151dd3d596b3596298a5ee95fb90d72210f5122f4ca95fe68b53d8", func := "loop.example/g00905/laws.FnDropHidden", spec := "fnDropHidden", inPlace := ["internal/bytealg.abigen_runtime_cmpstring"], unfollowed := true, recurses := true, apart := false }
def FnDropHiddenSaid : Prop := fnDropHiddenRow.holds Try.pinned (OpenSpec.ofChange fnDropHiddenSpec)

/-- ITS FALSE NEIGHBOUR: 'it returns false'. Refute it at one input. -/
def fnDropHiddenWrong : ChangeSpec := { name := "fnDropHidden", fn := fun _ => fun
  | [d] => { results := [.lit (.bool false)], args := [d] }
  | _ => none }
def FnDropHiddenWrongFalsely : Prop := fnDropHiddenRow.holds Try.pinned (OpenSpec.ofChange fnDropHiddenWrong)

/-- 'laws.FnErasePasses': WHATEVER THE INPUT: true; the input reads as it did. -/
def fnErasePassesSpec : ChangeSpec := { name := "fnErasePasses", fn := fun _ => fun
  | [d] => { results := [.lit (.bool true)], args := [d] }
  | _ => none }
def fnErasePassesRow : OpenClaim := { program := "ytgcdkchdgeppdaa", sum := "8b2edab8e4151dd3d596b3596298a5ee95fb90d72210f5122f4ca95fe68b53d8", func := "loop.example/g00905/laws.FnErasePasses", spec := "fnErasePasses", unfollowed := true, recurses := true, apart := false }
def FnErasePassesSaid : Prop := fnErasePassesRow.holds Try.pinned (OpenSpec.ofChange fnErasePassesSpec)

/-- ITS FALSE NEIGHBOUR: 'it returns false'. Refute it at one input. -/
def fnErasePassesWrong : ChangeSpec := { name := "fnErasePasses", fn := fun _ => fun
  | [d] => { results := [.lit (.bool false)], args := [d] }
  | _ => none }
def FnErasePassesWrongFalsely : Prop := fnErasePassesRow.holds Try.pinned (OpenSpec.ofChange fnErasePassesWrong)

/-- 'laws.FnCodec': WHATEVER THE INPUT: true; the input reads as it did. -/
def fnCodecSpec : ChangeSpec := { name := "fnCodec", fn := fun _ => fun
  | [d1, d2] => { results := [.lit (.bool true)], args := [d1, d2] }
  | _ => none }
def fnCodecRow : OpenClaim := { program := "ytgcdkchdgeppdaa", sum := "8b2edab8e4151dd3d596b3596298a5ee95fb90d72210f5122f4ca95fe68b53d8", func := "loop.example/g00905/laws.FnCodec", spec := "fnCodec", apart := false }
def FnCodecSaid : Prop := fnCodecRow.holds Try.pinned (OpenSpec.ofChange fnCodecSpec)

/-- ITS FALSE NEIGHBOUR: 'it returns false'. Refute it at one input. -/
def fnCodecWrong : ChangeSpec := { name := "fnCodec", fn := fun _ => fun
  | [d1, d2] => { results := [.lit (.bool false)], args := [d1, d2] }
  | _ => none }
def FnCodecWrongFalsely : Prop := fnCodecRow.holds Try.pinned (OpenSpec.ofChange fnCodecWrong)

/-- 'laws.FnCleaning': WHATEVER THE INPUT: true; the input reads as it did. -/
def fnCleaningSpec : ChangeSpec := { name := "fnCleaning", fn := fun _ => fun
  | [d] => { results := [.lit (.bool true)], args := [d] }
  | _ => none }
def fnCleaningRow : OpenClaim := { program := "ytgcdkchdgeppdaa", sum := "8b2edab8e4151dd3d596b3596298a5ee95fb90d72210f5122f4ca95fe68b53d8", func := "loop.example/g00905/laws.FnCleaning", spec := "fnCleaning", unfollowed := true, recurses := true, apart := false }
def FnCleaningSaid : Prop := fnCleaningRow.holds Try.pinned (OpenSpec.ofChange fnCleaningSpec)

/-- ITS FALSE NEIGHBOUR: 'it returns false'. Refute it at one input. -/
def fnCleaningWrong : ChangeSpec := { name := "fnCleaning", fn := fun _ => fun
  | [d] => { results := [.lit (.bool false)], args := [d] }
  | _ => none }
def FnCleaningWrongFalsely : Prop := fnCleaningRow.holds Try.pinned (OpenSpec.ofChange fnCleaningWrong)

/-- 'laws.FnExactLogicalAt': WHATEVER THE INPUT: true; the input reads as it did. -/
def fnExactLogicalAtSpec : ChangeSpec := { name := "fnExactLogicalAt", fn := fun _ => fun
  | [d1, d2] => { results := [.lit (.bool true)], args := [d1, d2] }
  | _ => none }
def fnExactLogicalAtRow : OpenClaim := { program := "ytgcdkchdgeppdaa", sum := "8b2edab8e4151dd3d596b3596298a5ee95fb90d72210f5122f4ca95fe68b53d8", func := "loop.example/g00905/laws.FnExactLogicalAt", spec := "fnExactLogicalAt", apart := false }
def FnExactLogicalAtSaid : Prop := fnExactLogicalAtRow.holds Try.pinned (OpenSpec.ofChange fnExactLogicalAtSpec)

/-- ITS FALSE NEIGHBOUR: 'it returns false'. Refute it at one input. -/
def fnExactLogicalAtWrong : ChangeSpec := { name := "fnExactLogicalAt", fn := fun _ => fun
  | [d1, d2] => { results := [.lit (.bool false)], args := [d1, d2] }
  | _ => none }
def FnExactLogicalAtWrongFalsely : Prop := fnExactLogicalAtRow.holds Try.pinned (OpenSpec.ofChange fnExactLogicalAtWrong)

/- THE SECOND FORM. 'bulk': how many values and letters a reading holds, each counted each time it is reached (what is shared counts as often as it is met; a slice's spare places count too). A statement '..UptoSaid' is the law's where the arguments, and the package variables that the reading takes, are together of bulk at most 1048576: NARROWER than '..Said'. Prove '..Said' where nothing that the law and all that it calls make is longer than what came in: it says more and counts as full. Else prove '..UptoSaid'. A law counts once. -/
mutual
def uptoBulk {H : Type} : DataW H → Nat
  | .lit (.string bytes) => bytes.length + 1
  | .lit _ => 1
  | .nil => 1
  | .ptr d => uptoBulk d + 1
  | .slice elems spare => uptoBulkAll elems + uptoBulkAll spare + 1
  | .agg parts => uptoBulkAll parts + 1
  | .iface _ d => uptoBulk d + 1
  | .map entries => uptoBulkEntries entries + 1
  | .held _ => 1
def uptoBulkAll {H : Type} : List (DataW H) → Nat
  | [] => 0
  | d :: r => uptoBulk d + uptoBulkAll r
def uptoBulkEntries {H : Type} : List (Lit × DataW H) → Nat
  | [] => 0
  | x :: r => uptoBulkEntry x + uptoBulkEntries r
def uptoBulkEntry {H : Type} : Lit × DataW H → Nat
  | (.string bytes, d) => bytes.length + uptoBulk d + 1
  | (_, d) => uptoBulk d + 1
 end
def uptoSmall : (H : Type) → List (DataW H) → Bool := fun _ ds => decide (uptoBulkAll ds ≤ 1048576)
def OpenSpec.upto (s : _root_.Go.ChangeSpec) : _root_.Go.OpenSpec := { _root_.Go.OpenSpec.ofChange s with cond := some uptoSmall }

/-- 'laws.FnExactProgramsFor', WHERE WHAT IT READS IS OF BULK AT MOST 1048576: true; the input reads as it did. -/
def fnExactProgramsForUptoRow : OpenClaim := { program := "ytgcdkchdgeppdaa", sum := "8b2edab8e4151dd3d596b3596298a5ee95fb90d72210f5122f4ca95fe68b53d8", func := "loop.example/g00905/laws.FnExactProgramsFor", spec := "fnExactProgramsFor", apart := false, narrowed := true }
def FnExactProgramsForUptoSaid : Prop := fnExactProgramsForUptoRow.holds Try.pinned (OpenSpec.upto fnExactProgramsForSpec)

/-- 'laws.FnLfsr', WHERE WHAT IT READS IS OF BULK AT MOST 1048576: true; the input reads as it did. -/
def fnLfsrUptoRow : OpenClaim := { program := "ytgcdkchdgeppdaa", sum := "8b2edab8e4151dd3d596b3596298a5ee95fb90d72210f5122f4ca95fe68b53d8", func := "loop.example/g00905/laws.FnLfsr", spec := "fnLfsr", apart := false, narrowed := true }
def FnLfsrUptoSaid : Prop := fnLfsrUptoRow.holds Try.pinned (OpenSpec.upto fnLfsrSpec)

/-- 'laws.FnExactAllGood', WHERE WHAT IT READS IS OF BULK AT MOST 1048576: true; the input reads as it did. -/
def fnExactAllGoodUptoRow : OpenClaim := { program := "ytgcdkchdgeppdaa", sum := "8b2edab8e4151dd3d596b3596298a5ee95fb90d72210f5122f4ca95fe68b53d8", func := "loop.example/g00905/laws.FnExactAllGood", spec := "fnExactAllGood", unfollowed := true, recurses := true, apart := false, narrowed := true }
def FnExactAllGoodUptoSaid : Prop := fnExactAllGoodUptoRow.holds Try.pinned (OpenSpec.upto fnExactAllGoodSpec)

/-- 'laws.FnExactMostLost', WHERE WHAT IT READS IS OF BULK AT MOST 1048576: true; the input reads as it did. -/
def fnExactMostLostUptoRow : OpenClaim := { program := "ytgcdkchdgeppdaa", sum := "8b2edab8e4151dd3d596b3596298a5ee95fb90d72210f5122f4ca95fe68b53d8", func := "loop.example/g00905/laws.FnExactMostLost", spec := "fnExactMostLost", apart := false, narrowed := true }
def FnExactMostLostUptoSaid : Prop := fnExactMostLostUptoRow.holds Try.pinned (OpenSpec.upto fnExactMostLostSpec)

/-- 'laws.FnScramble', WHERE WHAT IT READS IS OF BULK AT MOST 1048576: true; the input reads as it did. -/
def fnScrambleUptoRow : OpenClaim := { program := "ytgcdkchdgeppdaa", sum := "8b2edab8e4151dd3d596b3596298a5ee95fb90d72210f5122f4ca95fe68b53d8", func := "loop.example/g00905/laws.FnScramble", spec := "fnScramble", apart := false, narrowed := true }
def FnScrambleUptoSaid : Prop := fnScrambleUptoRow.holds Try.pinned (OpenSpec.upto fnScrambleSpec)

/-- 'laws.FnRandomFaults', WHERE WHAT IT READS IS OF BULK AT MOST 1048576: true; the input reads as it did. -/
def fnRandomFaultsUptoRow : OpenClaim := { program := "ytgcdkchdgeppdaa", sum := "8b2edab8e4151dd3d596b3596298a5ee95fb90d72210f5122f4ca95fe68b53d8", func := "loop.example/g00905/laws.FnRandomFaults", spec := "fnRandomFaults", unfollowed := true, recurses := true, apart := false, narrowed := true }
def FnRandomFaultsUptoSaid : Prop := fnRandomFaultsUptoRow.holds Try.pinned (OpenSpec.upto fnRandomFaultsSpec)

/-- 'laws.FnExactValidDbAct', WHERE WHAT IT READS IS OF BULK AT MOST 1048576: true; the input reads as it did. -/
def fnExactValidDbActUptoRow : OpenClaim := { program := "ytgcdkchdgeppdaa", sum := "8b2edab8e4151dd3d596b3596298a5ee95fb90d72210f5122f4ca95fe68b53d8", func := "loop.example/g00905/laws.FnExactValidDbAct", spec := "fnExactValidDbAct", apart := false, narrowed := true }
def FnExactValidDbActUptoSaid : Prop := fnExactValidDbActUptoRow.holds Try.pinned (OpenSpec.upto fnExactValidDbActSpec)

/-- 'laws.FnDropHidden', WHERE WHAT IT READS IS OF BULK AT MOST 1048576: true; the input reads as it did. -/
def fnDropHiddenUptoRow : OpenClaim := { program := "ytgcdkchdgeppdaa", sum := "8b2edab8e4151dd3d596b3596298a5ee95fb90d72210f5122f4ca95fe68b53d8", func := "loop.example/g00905/laws.FnDropHidden", spec := "fnDropHidden", inPlace := ["internal/bytealg.abigen_runtime_cmpstring"], unfollowed := true, recurses := true, apart := false, narrowed := true }
def FnDropHiddenUptoSaid : Prop := fnDropHiddenUptoRow.holds Try.pinned (OpenSpec.upto fnDropHiddenSpec)

/-- 'laws.FnErasePasses', WHERE WHAT IT READS IS OF BULK AT MOST 1048576: true; the input reads as it did. -/
def fnErasePassesUptoRow : OpenClaim := { program := "ytgcdkchdgeppdaa", sum := "8b2edab8e4151dd3d596b3596298a5ee95fb90d72210f5122f4ca95fe68b53d8", func := "loop.example/g00905/laws.FnErasePasses", spec := "fnErasePasses", unfollowed := true, recurses := true, apart := false, narrowed := true }
def FnErasePassesUptoSaid : Prop := fnErasePassesUptoRow.holds Try.pinned (OpenSpec.upto fnErasePassesSpec)

/-- 'laws.FnCodec', WHERE WHAT IT READS IS OF BULK AT MOST 1048576: true; the input reads as it did. -/
def fnCodecUptoRow : OpenClaim := { program := "ytgcdkchdgeppdaa", sum := "8b2edab8e4151dd3d596b3596298a5ee95fb90d72210f5122f4ca95fe68b53d8", func := "loop.example/g00905/laws.FnCodec", spec := "fnCodec", apart := false, narrowed := true }
def FnCodecUptoSaid : Prop := fnCodecUptoRow.holds Try.pinned (OpenSpec.upto fnCodecSpec)

/-- 'laws.FnCleaning', WHERE WHAT IT READS IS OF BULK AT MOST 1048576: true; the input reads as it did. -/
def fnCleaningUptoRow : OpenClaim := { program := "ytgcdkchdgeppdaa", sum := "8b2edab8e4151dd3d596b3596298a5ee95fb90d72210f5122f4ca95fe68b53d8", func := "loop.example/g00905/laws.FnCleaning", spec := "fnCleaning", unfollowed := true, recurses := true, apart := false, narrowed := true }
def FnCleaningUptoSaid : Prop := fnCleaningUptoRow.holds Try.pinned (OpenSpec.upto fnCleaningSpec)

/-- 'laws.FnExactLogicalAt', WHERE WHAT IT READS IS OF BULK AT MOST 1048576: true; the input reads as it did. -/
def fnExactLogicalAtUptoRow : OpenClaim := { program := "ytgcdkchdgeppdaa", sum := "8b2edab8e4151dd3d596b3596298a5ee95fb90d72210f5122f4ca95fe68b53d8", func := "loop.example/g00905/laws.FnExactLogicalAt", spec := "fnExactLogicalAt", apart := false, narrowed := true }
def FnExactLogicalAtUptoSaid : Prop := fnExactLogicalAtUptoRow.holds Try.pinned (OpenSpec.upto fnExactLogicalAtSpec)

end Rows
end Go.Proofs.Ytgcdkchdgeppdaa

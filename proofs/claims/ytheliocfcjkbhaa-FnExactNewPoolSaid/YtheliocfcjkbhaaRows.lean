/-
  No cell of these rows narrows 'for every input' (looked for: loops, veiled, ifaces, maps, wideKeys, modest, calm, conditions, laid).
  DERIVED. THE GIVEN ROWS OF THIS SEAT. 10 by the template 'for every input the law returns true; each argument reads behind the call as it read before'; 0 by the template 'total and deterministic' (their statements: YtheliocfcjkbhaaTotals.lean).
  GIVEN WITH THE SEED: the statements are not yours to turn. If you find one false, say at which input.
  Laid BY PROGRAM, IN A SANDBOX (cutbox-rows.mjs): the forced cells as the released guide's own fill.sh prints them over the translation 8891660063baaef5… (all of the seat's roots in one cut). By AI agents, Wed Nov 11 2026. No macro, syntax, notation, axiom, sorry.
-/
import Derived.Test.YtheliocfcjkbhaaChecked
import GoSem.Claim
import GoSem.ClaimJoined
import GoSem.ClaimMapViews
import Derived.JoinedTies
import Derived.KernelRfl
namespace Go.Proofs.Ytheliocfcjkbhaa
/- THE CELL 'sum', in the pinned program and in every row, IS THE sha256 OF THE DUMP (.gsa) THAT YtheliocfcjkbhaaProg.lean LOADS. Nothing in Lean hashes anything: it is a label: what it is worth is what the hold of that sum in a sandbox is worth. -/
noncomputable def Try.pinned : Pinned := { name := "ytheliocfcjkbhaa", sum := "8891660063baaef5c4d6e93303a40e295fe29a205e48182ce74d14fa81f6c3b4", checked := Try.checked }
namespace Rows
def none {H : Type} : Left H := { results := [], args := [] }

/-- 'laws.FnExactDerivativeAt': WHATEVER THE INPUT: true; the input reads as it did. -/
def fnExactDerivativeAtSpec : ChangeSpec := { name := "fnExactDerivativeAt", fn := fun _ => fun
  | [d1, d2, d3] => { results := [.lit (.bool true)], args := [d1, d2, d3] }
  | _ => none }
def fnExactDerivativeAtRow : OpenClaim := { program := "ytheliocfcjkbhaa", sum := "8891660063baaef5c4d6e93303a40e295fe29a205e48182ce74d14fa81f6c3b4", func := "loop.example/g01009/laws.FnExactDerivativeAt", spec := "fnExactDerivativeAt", unfollowed := true, recurses := true, apart := false }
def FnExactDerivativeAtSaid : Prop := fnExactDerivativeAtRow.holds Try.pinned (OpenSpec.ofChange fnExactDerivativeAtSpec)

/-- ITS FALSE NEIGHBOUR: 'it returns false'. Refute it at one input. -/
def fnExactDerivativeAtWrong : ChangeSpec := { name := "fnExactDerivativeAt", fn := fun _ => fun
  | [d1, d2, d3] => { results := [.lit (.bool false)], args := [d1, d2, d3] }
  | _ => none }
def FnExactDerivativeAtWrongFalsely : Prop := fnExactDerivativeAtRow.holds Try.pinned (OpenSpec.ofChange fnExactDerivativeAtWrong)

/-- 'laws.FnExactOrderAt': WHATEVER THE INPUT: true; the input reads as it did. -/
def fnExactOrderAtSpec : ChangeSpec := { name := "fnExactOrderAt", fn := fun _ => fun
  | [d1, d2] => { results := [.lit (.bool true)], args := [d1, d2] }
  | _ => none }
def fnExactOrderAtRow : OpenClaim := { program := "ytheliocfcjkbhaa", sum := "8891660063baaef5c4d6e93303a40e295fe29a205e48182ce74d14fa81f6c3b4", func := "loop.example/g01009/laws.FnExactOrderAt", spec := "fnExactOrderAt", unfollowed := true, recurses := true, apart := false }
def FnExactOrderAtSaid : Prop := fnExactOrderAtRow.holds Try.pinned (OpenSpec.ofChange fnExactOrderAtSpec)

/-- ITS FALSE NEIGHBOUR: 'it returns false'. Refute it at one input. -/
def fnExactOrderAtWrong : ChangeSpec := { name := "fnExactOrderAt", fn := fun _ => fun
  | [d1, d2] => { results := [.lit (.bool false)], args := [d1, d2] }
  | _ => none }
def FnExactOrderAtWrongFalsely : Prop := fnExactOrderAtRow.holds Try.pinned (OpenSpec.ofChange fnExactOrderAtWrong)

/-- 'laws.FnExactIsPool': WHATEVER THE INPUT: true; the input reads as it did. -/
def fnExactIsPoolSpec : ChangeSpec := { name := "fnExactIsPool", fn := fun _ => fun
  | [d1, d2] => { results := [.lit (.bool true)], args := [d1, d2] }
  | _ => none }
def fnExactIsPoolRow : OpenClaim := { program := "ytheliocfcjkbhaa", sum := "8891660063baaef5c4d6e93303a40e295fe29a205e48182ce74d14fa81f6c3b4", func := "loop.example/g01009/laws.FnExactIsPool", spec := "fnExactIsPool", apart := false }
def FnExactIsPoolSaid : Prop := fnExactIsPoolRow.holds Try.pinned (OpenSpec.ofChange fnExactIsPoolSpec)

/-- ITS FALSE NEIGHBOUR: 'it returns false'. Refute it at one input. -/
def fnExactIsPoolWrong : ChangeSpec := { name := "fnExactIsPool", fn := fun _ => fun
  | [d1, d2] => { results := [.lit (.bool false)], args := [d1, d2] }
  | _ => none }
def FnExactIsPoolWrongFalsely : Prop := fnExactIsPoolRow.holds Try.pinned (OpenSpec.ofChange fnExactIsPoolWrong)

/-- 'laws.FnExactMultiplicityParts': WHATEVER THE INPUT: true; the input reads as it did. -/
def fnExactMultiplicityPartsSpec : ChangeSpec := { name := "fnExactMultiplicityParts", fn := fun _ => fun
  | [d] => { results := [.lit (.bool true)], args := [d] }
  | _ => none }
def fnExactMultiplicityPartsRow : OpenClaim := { program := "ytheliocfcjkbhaa", sum := "8891660063baaef5c4d6e93303a40e295fe29a205e48182ce74d14fa81f6c3b4", func := "loop.example/g01009/laws.FnExactMultiplicityParts", spec := "fnExactMultiplicityParts", unfollowed := true, recurses := true, apart := false }
def FnExactMultiplicityPartsSaid : Prop := fnExactMultiplicityPartsRow.holds Try.pinned (OpenSpec.ofChange fnExactMultiplicityPartsSpec)

/-- ITS FALSE NEIGHBOUR: 'it returns false'. Refute it at one input. -/
def fnExactMultiplicityPartsWrong : ChangeSpec := { name := "fnExactMultiplicityParts", fn := fun _ => fun
  | [d] => { results := [.lit (.bool false)], args := [d] }
  | _ => none }
def FnExactMultiplicityPartsWrongFalsely : Prop := fnExactMultiplicityPartsRow.holds Try.pinned (OpenSpec.ofChange fnExactMultiplicityPartsWrong)

/-- 'laws.FnExactAreWorkApart': WHATEVER THE INPUT: true; the input reads as it did. -/
def fnExactAreWorkApartSpec : ChangeSpec := { name := "fnExactAreWorkApart", fn := fun _ => fun
  | [d1, d2] => { results := [.lit (.bool true)], args := [d1, d2] }
  | _ => none }
def fnExactAreWorkApartRow : OpenClaim := { program := "ytheliocfcjkbhaa", sum := "8891660063baaef5c4d6e93303a40e295fe29a205e48182ce74d14fa81f6c3b4", func := "loop.example/g01009/laws.FnExactAreWorkApart", spec := "fnExactAreWorkApart", unfollowed := true, recurses := true, apart := false }
def FnExactAreWorkApartSaid : Prop := fnExactAreWorkApartRow.holds Try.pinned (OpenSpec.ofChange fnExactAreWorkApartSpec)

/-- ITS FALSE NEIGHBOUR: 'it returns false'. Refute it at one input. -/
def fnExactAreWorkApartWrong : ChangeSpec := { name := "fnExactAreWorkApart", fn := fun _ => fun
  | [d1, d2] => { results := [.lit (.bool false)], args := [d1, d2] }
  | _ => none }
def FnExactAreWorkApartWrongFalsely : Prop := fnExactAreWorkApartRow.holds Try.pinned (OpenSpec.ofChange fnExactAreWorkApartWrong)

/-- 'laws.FnExactBusyWorkers': WHATEVER THE INPUT: true; the input reads as it did. -/
def fnExactBusyWorkersSpec : ChangeSpec := { name := "fnExactBusyWorkers", fn := fun _ => fun
  | [d1, d2] => { results := [.lit (.bool true)], args := [d1, d2] }
  | _ => none }
def fnExactBusyWorkersRow : OpenClaim := { program := "ytheliocfcjkbhaa", sum := "8891660063baaef5c4d6e93303a40e295fe29a205e48182ce74d14fa81f6c3b4", func := "loop.example/g01009/laws.FnExactBusyWorkers", spec := "fnExactBusyWorkers", apart := false }
def FnExactBusyWorkersSaid : Prop := fnExactBusyWorkersRow.holds Try.pinned (OpenSpec.ofChange fnExactBusyWorkersSpec)

/-- ITS FALSE NEIGHBOUR: 'it returns false'. Refute it at one input. -/
def fnExactBusyWorkersWrong : ChangeSpec := { name := "fnExactBusyWorkers", fn := fun _ => fun
  | [d1, d2] => { results := [.lit (.bool false)], args := [d1, d2] }
  | _ => none }
def FnExactBusyWorkersWrongFalsely : Prop := fnExactBusyWorkersRow.holds Try.pinned (OpenSpec.ofChange fnExactBusyWorkersWrong)

/-- 'laws.FnExactNewPool': WHATEVER THE INPUT: true; the input reads as it did. -/
def fnExactNewPoolSpec : ChangeSpec := { name := "fnExactNewPool", fn := fun _ => fun
  | [d1, d2] => { results := [.lit (.bool true)], args := [d1, d2] }
  | _ => none }
def fnExactNewPoolRow : OpenClaim := { program := "ytheliocfcjkbhaa", sum := "8891660063baaef5c4d6e93303a40e295fe29a205e48182ce74d14fa81f6c3b4", func := "loop.example/g01009/laws.FnExactNewPool", spec := "fnExactNewPool", apart := false }
def FnExactNewPoolSaid : Prop := fnExactNewPoolRow.holds Try.pinned (OpenSpec.ofChange fnExactNewPoolSpec)

/-- ITS FALSE NEIGHBOUR: 'it returns false'. Refute it at one input. -/
def fnExactNewPoolWrong : ChangeSpec := { name := "fnExactNewPool", fn := fun _ => fun
  | [d1, d2] => { results := [.lit (.bool false)], args := [d1, d2] }
  | _ => none }
def FnExactNewPoolWrongFalsely : Prop := fnExactNewPoolRow.holds Try.pinned (OpenSpec.ofChange fnExactNewPoolWrong)

/-- 'laws.FnExactMissingVolume': WHATEVER THE INPUT: true; the input reads as it did. -/
def fnExactMissingVolumeSpec : ChangeSpec := { name := "fnExactMissingVolume", fn := fun _ => fun
  | [d1, d2] => { results := [.lit (.bool true)], args := [d1, d2] }
  | _ => none }
def fnExactMissingVolumeRow : OpenClaim := { program := "ytheliocfcjkbhaa", sum := "8891660063baaef5c4d6e93303a40e295fe29a205e48182ce74d14fa81f6c3b4", func := "loop.example/g01009/laws.FnExactMissingVolume", spec := "fnExactMissingVolume", inPlace := ["math/bits.Add64", "math/bits.Sub64"], apart := false }
def FnExactMissingVolumeSaid : Prop := fnExactMissingVolumeRow.holds Try.pinned (OpenSpec.ofChange fnExactMissingVolumeSpec)

/-- ITS FALSE NEIGHBOUR: 'it returns false'. Refute it at one input. -/
def fnExactMissingVolumeWrong : ChangeSpec := { name := "fnExactMissingVolume", fn := fun _ => fun
  | [d1, d2] => { results := [.lit (.bool false)], args := [d1, d2] }
  | _ => none }
def FnExactMissingVolumeWrongFalsely : Prop := fnExactMissingVolumeRow.holds Try.pinned (OpenSpec.ofChange fnExactMissingVolumeWrong)

/-- 'laws.FnExactSimpleRoots': WHATEVER THE INPUT: true; the input reads as it did. -/
def fnExactSimpleRootsSpec : ChangeSpec := { name := "fnExactSimpleRoots", fn := fun _ => fun
  | [d] => { results := [.lit (.bool true)], args := [d] }
  | _ => none }
def fnExactSimpleRootsRow : OpenClaim := { program := "ytheliocfcjkbhaa", sum := "8891660063baaef5c4d6e93303a40e295fe29a205e48182ce74d14fa81f6c3b4", func := "loop.example/g01009/laws.FnExactSimpleRoots", spec := "fnExactSimpleRoots", unfollowed := true, recurses := true, apart := false }
def FnExactSimpleRootsSaid : Prop := fnExactSimpleRootsRow.holds Try.pinned (OpenSpec.ofChange fnExactSimpleRootsSpec)

/-- ITS FALSE NEIGHBOUR: 'it returns false'. Refute it at one input. -/
def fnExactSimpleRootsWrong : ChangeSpec := { name := "fnExactSimpleRoots", fn := fun _ => fun
  | [d] => { results := [.lit (.bool false)], args := [d] }
  | _ => none }
def FnExactSimpleRootsWrongFalsely : Prop := fnExactSimpleRootsRow.holds Try.pinned (OpenSpec.ofChange fnExactSimpleRootsWrong)

/-- 'laws.FnExactSumOfMultiplicities': WHATEVER THE INPUT: true; the input reads as it did. -/
def fnExactSumOfMultiplicitiesSpec : ChangeSpec := { name := "fnExactSumOfMultiplicities", fn := fun _ => fun
  | [d] => { results := [.lit (.bool true)], args := [d] }
  | _ => none }
def fnExactSumOfMultiplicitiesRow : OpenClaim := { program := "ytheliocfcjkbhaa", sum := "8891660063baaef5c4d6e93303a40e295fe29a205e48182ce74d14fa81f6c3b4", func := "loop.example/g01009/laws.FnExactSumOfMultiplicities", spec := "fnExactSumOfMultiplicities", unfollowed := true, recurses := true, apart := false }
def FnExactSumOfMultiplicitiesSaid : Prop := fnExactSumOfMultiplicitiesRow.holds Try.pinned (OpenSpec.ofChange fnExactSumOfMultiplicitiesSpec)

/-- ITS FALSE NEIGHBOUR: 'it returns false'. Refute it at one input. -/
def fnExactSumOfMultiplicitiesWrong : ChangeSpec := { name := "fnExactSumOfMultiplicities", fn := fun _ => fun
  | [d] => { results := [.lit (.bool false)], args := [d] }
  | _ => none }
def FnExactSumOfMultiplicitiesWrongFalsely : Prop := fnExactSumOfMultiplicitiesRow.holds Try.pinned (OpenSpec.ofChange fnExactSumOfMultiplicitiesWrong)

/- THE SECOND FORM. 'bulk': how many values and letters a reading holds, each counted each time it is reached (what is shared counts as often as it is met; a slice's spare places count too). A statement '..UptoSaid' is the law's where the arguments, and the package variables that the reading takes, are together of bulk at most 1048576: NARROWER than '..Said'. Prove '..Said' where nothing that the law and all that it calls make is longer than what came in: it says more and counts as full. Else prove '..UptoSaid'. A law counts once. -/
mutual
def uptoBulk {H : Type} : DataW H → Nat
  | .lit (.string bytes) => bytes.length + 1
  | .lit _ => 1
  | .nil => 1
  | .ptr d => uptoBulk d + 1
  | .slice elems spare => uptoBulkAll elems + uptoBulkAll spare + 1
  | .agg parts => uptoBulkAll parts + 1
  | .iface _ d => uptoBulk d + 1
  | .map entries => uptoBulkEntries entries + 1
  | .held _ => 1
def uptoBulkAll {H : Type} : List (DataW H) → Nat
  | [] => 0
  | d :: r => uptoBulk d + uptoBulkAll r
def uptoBulkEntries {H : Type} : List (Lit × DataW H) → Nat
  | [] => 0
  | x :: r => uptoBulkEntry x + uptoBulkEntries r
def uptoBulkEntry {H : Type} : Lit × DataW H → Nat
  | (.string bytes, d) => bytes.length + uptoBulk d + 1
  | (_, d) => uptoBulk d + 1
 end
def uptoSmall : (H : Type) → List (DataW H) → Bool := fun _ ds => decide (uptoBulkAll ds ≤ 1048576)
def OpenSpec.upto (s : _root_.Go.ChangeSpec) : _root_.Go.OpenSpec := { _root_.Go.OpenSpec.ofChange s with cond := some uptoSmall }

/-- 'laws.FnExactDerivativeAt', WHERE WHAT IT READS IS OF BULK AT MOST 1048576: true; the input reads as it did. -/
def fnExactDerivativeAtUptoRow : OpenClaim := { program := "ytheliocfcjkbhaa", sum := "8891660063baaef5c4d6e93303a40e295fe29a205e48182ce74d14fa81f6c3b4", func := "loop.example/g01009/laws.FnExactDerivativeAt", spec := "fnExactDerivativeAt", unfollowed := true, recurses := true, apart := false, narrowed := true }
def FnExactDerivativeAtUptoSaid : Prop := fnExactDerivativeAtUptoRow.holds Try.pinned (OpenSpec.upto fnExactDerivativeAtSpec)

/-- 'laws.FnExactOrderAt', WHERE WHAT IT READS IS OF BULK AT MOST 1048576: true; the input reads as it did. -/
def fnExactOrderAtUptoRow : OpenClaim := { program := "ytheliocfcjkbhaa", sum := "8891660063baaef5c4d6e93303a40e295fe29a205e48182ce74d14fa81f6c3b4", func := "loop.example/g01009/laws.FnExactOrderAt", spec := "fnExactOrderAt", unfollowed := true, recurses := true, apart := false, narrowed := true }
def FnExactOrderAtUptoSaid : Prop := fnExactOrderAtUptoRow.holds Try.pinned (OpenSpec.upto fnExactOrderAtSpec)

/-- 'laws.FnExactIsPool', WHERE WHAT IT READS IS OF BULK AT MOST 1048576: true; the input reads as it did. -/
def fnExactIsPoolUptoRow : OpenClaim := { program := "ytheliocfcjkbhaa", sum := "8891660063baaef5c4d6e93303a40e295fe29a205e48182ce74d14fa81f6c3b4", func := "loop.example/g01009/laws.FnExactIsPool", spec := "fnExactIsPool", apart := false, narrowed := true }
def FnExactIsPoolUptoSaid : Prop := fnExactIsPoolUptoRow.holds Try.pinned (OpenSpec.upto fnExactIsPoolSpec)

/-- 'laws.FnExactMultiplicityParts', WHERE WHAT IT READS IS OF BULK AT MOST 1048576: true; the input reads as it did. -/
def fnExactMultiplicityPartsUptoRow : OpenClaim := { program := "ytheliocfcjkbhaa", sum := "8891660063baaef5c4d6e93303a40e295fe29a205e48182ce74d14fa81f6c3b4", func := "loop.example/g01009/laws.FnExactMultiplicityParts", spec := "fnExactMultiplicityParts", unfollowed := true, recurses := true, apart := false, narrowed := true }
def FnExactMultiplicityPartsUptoSaid : Prop := fnExactMultiplicityPartsUptoRow.holds Try.pinned (OpenSpec.upto fnExactMultiplicityPartsSpec)

/-- 'laws.FnExactAreWorkApart', WHERE WHAT IT READS IS OF BULK AT MOST 1048576: true; the input reads as it did. -/
def fnExactAreWorkApartUptoRow : OpenClaim := { program := "ytheliocfcjkbhaa", sum := "8891660063baaef5c4d6e93303a40e295fe29a205e48182ce74d14fa81f6c3b4", func := "loop.example/g01009/laws.FnExactAreWorkApart", spec := "fnExactAreWorkApart", unfollowed := true, recurses := true, apart := false, narrowed := true }
def FnExactAreWorkApartUptoSaid : Prop := fnExactAreWorkApartUptoRow.holds Try.pinned (OpenSpec.upto fnExactAreWorkApartSpec)

/-- 'laws.FnExactBusyWorkers', WHERE WHAT IT READS IS OF BULK AT MOST 1048576: true; the input reads as it did. -/
def fnExactBusyWorkersUptoRow : OpenClaim := { program := "ytheliocfcjkbhaa", sum := "8891660063baaef5c4d6e93303a40e295fe29a205e48182ce74d14fa81f6c3b4", func := "loop.example/g01009/laws.FnExactBusyWorkers", spec := "fnExactBusyWorkers", apart := false, narrowed := true }
def FnExactBusyWorkersUptoSaid : Prop := fnExactBusyWorkersUptoRow.holds Try.pinned (OpenSpec.upto fnExactBusyWorkersSpec)

/-- 'laws.FnExactNewPool', WHERE WHAT IT READS IS OF BULK AT MOST 1048576: true; the input reads as it did. -/
def fnExactNewPoolUptoRow : OpenClaim := { program := "ytheliocfcjkbhaa", sum := "8891660063baaef5c4d6e93303a40e295fe29a205e48182ce74d14fa81f6c3b4", func := "loop.example/g01009/laws.FnExactNewPool", spec := "fnExactNewPool", apart := false, narrowed := true }
def FnExactNewPoolUptoSaid : Prop := fnExactNewPoolUptoRow.holds Try.pinned (OpenSpec.upto fnExactNewPoolSpec)

/-- 'laws.FnExactMissingVolume', WHERE WHAT IT READS IS OF BULK AT MOST 1048576: true; the input reads as it did. -/
def fnExactMissingVolumeUptoRow : OpenClaim := { program := "ytheliocfcjkbhaa", sum := "8891660063baaef5c4d6e93303a40e295fe29a205e48182ce74d14fa81f6c3b4", func := "loop.example/g01009/laws.FnExactMissingVolume", spec := "fnExactMissingVolume", inPlace := ["math/bits.Add64", "math/bits.Sub64"], apart := false, narrowed := true }
def FnExactMissingVolumeUptoSaid : Prop := fnExactMissingVolumeUptoRow.holds Try.pinned (OpenSpec.upto fnExactMissingVolumeSpec)

/-- 'laws.FnExactSimpleRoots', WHERE WHAT IT READS IS OF BULK AT MOST 1048576: true; the input reads as it did. -/
def fnExactSimpleRootsUptoRow : OpenClaim := { program := "ytheliocfcjkbhaa", sum := "8891660063baaef5c4d6e93303a40e295fe29a205e48182ce74d14fa81f6c3b4", func := "loop.example/g01009/laws.FnExactSimpleRoots", spec := "fnExactSimpleRoots", unfollowed := true, recurses := true, apart := false, narrowed := true }
def FnExactSimpleRootsUptoSaid : Prop := fnExactSimpleRootsUptoRow.holds Try.pinned (OpenSpec.upto fnExactSimpleRootsSpec)

/-- 'laws.FnExactSumOfMultiplicities', WHERE WHAT IT READS IS OF BULK AT MOST 1048576: true; the input reads as it did. -/
def fnExactSumOfMultiplicitiesUptoRow : OpenClaim := { program := "ytheliocfcjkbhaa", sum := "8891660063baaef5c4d6e93303a40e295fe29a205e48182ce74d14fa81f6c3b4", func := "loop.example/g01009/laws.FnExactSumOfMultiplicities", spec := "fnExactSumOfMultiplicities", unfollowed := true, recurses := true, apart := false, narrowed := true }
def FnExactSumOfMultiplicitiesUptoSaid : Prop := fnExactSumOfMultiplicitiesUptoRow.holds Try.pinned (OpenSpec.upto fnExactSumOfMultiplicitiesSpec)

end Rows
end Go.Proofs.Ytheliocfcjkbhaa

/-
  No cell of these rows narrows 'for every input' (looked for: loops, veiled, ifaces, maps, wideKeys, modest, calm, conditions, laid).
  DERIVED. THE GIVEN ROWS OF THIS SEAT. 6 by the template 'for every input the law returns true; each argument reads behind the call as it read before'; 0 by the template 'total and deterministic' (their statements: YtiiolloielppeaaTotals.lean).
  GIVEN WITH THE SEED: the statements are not yours to turn. If you find one false, say at which input.
  Laid BY PROGRAM, IN A SANDBOX (cutbox-rows.mjs): the forced cells as the released guide's own fill.sh prints them over the translation 980964b643220718… (all of the seat's roots in one cut). By AI agents, Wed Nov 11 2026. No macro, syntax, notation, axiom, sorry.
-/
import Derived.Test.YtiiolloielppeaaChecked
import GoSem.Claim
import GoSem.ClaimJoined
import GoSem.ClaimMapViews
import Derived.JoinedTies
import Derived.KernelRfl
namespace Go.Proofs.Ytiiolloielppeaa
/- THE CELL 'sum', in the pinned program and in every row, IS THE sha256 OF THE DUMP (.gsa) THAT YtiiolloielppeaaProg.lean LOADS. Nothing in Lean hashes anything: it is a label: what it is worth is what the hold of that sum in a sandbox is worth. -/
noncomputable def Try.pinned : Pinned := { name := "ytiiolloielppeaa", sum := "980964b643220718b948682c5377c6fbfe0bd79d109d32908d9083809f8c9402", checked := Try.checked }
namespace Rows
def none {H : Type} : Left H := { results := [], args := [] }

/-- 'laws.FnExactAreWorkApart': WHATEVER THE INPUT: true; the input reads as it did. -/
def fnExactAreWorkApartSpec : ChangeSpec := { name := "fnExactAreWorkApart", fn := fun _ => fun
  | [d1, d2] => { results := [.lit (.bool true)], args := [d1, d2] }
  | _ => none }
def fnExactAreWorkApartRow : OpenClaim := { program := "ytiiolloielppeaa", sum := "980964b643220718b948682c5377c6fbfe0bd79d109d32908d9083809f8c9402", func := "loop.example/g01009/laws.FnExactAreWorkApart", spec := "fnExactAreWorkApart", unfollowed := true, recurses := true, apart := false }
def FnExactAreWorkApartSaid : Prop := fnExactAreWorkApartRow.holds Try.pinned (OpenSpec.ofChange fnExactAreWorkApartSpec)

/-- ITS FALSE NEIGHBOUR: 'it returns false'. Refute it at one input. -/
def fnExactAreWorkApartWrong : ChangeSpec := { name := "fnExactAreWorkApart", fn := fun _ => fun
  | [d1, d2] => { results := [.lit (.bool false)], args := [d1, d2] }
  | _ => none }
def FnExactAreWorkApartWrongFalsely : Prop := fnExactAreWorkApartRow.holds Try.pinned (OpenSpec.ofChange fnExactAreWorkApartWrong)

/-- 'laws.FnExactMissingVolume': WHATEVER THE INPUT: true; the input reads as it did. -/
def fnExactMissingVolumeSpec : ChangeSpec := { name := "fnExactMissingVolume", fn := fun _ => fun
  | [d1, d2] => { results := [.lit (.bool true)], args := [d1, d2] }
  | _ => none }
def fnExactMissingVolumeRow : OpenClaim := { program := "ytiiolloielppeaa", sum := "980964b643220718b948682c5377c6fbfe0bd79d109d32908d9083809f8c9402", func := "loop.example/g01009/laws.FnExactMissingVolume", spec := "fnExactMissingVolume", inPlace := ["math/bits.Add64", "math/bits.Sub64"], apart := false }
def FnExactMissingVolumeSaid : Prop := fnExactMissingVolumeRow.holds Try.pinned (OpenSpec.ofChange fnExactMissingVolumeSpec)

/-- ITS FALSE NEIGHBOUR: 'it returns false'. Refute it at one input. -/
def fnExactMissingVolumeWrong : ChangeSpec := { name := "fnExactMissingVolume", fn := fun _ => fun
  | [d1, d2] => { results := [.lit (.bool false)], args := [d1, d2] }
  | _ => none }
def FnExactMissingVolumeWrongFalsely : Prop := fnExactMissingVolumeRow.holds Try.pinned (OpenSpec.ofChange fnExactMissingVolumeWrong)

/-- 'laws.FnExactWorkVolumes': WHATEVER THE INPUT: true; the input reads as it did. -/
def fnExactWorkVolumesSpec : ChangeSpec := { name := "fnExactWorkVolumes", fn := fun _ => fun
  | [d1, d2] => { results := [.lit (.bool true)], args := [d1, d2] }
  | _ => none }
def fnExactWorkVolumesRow : OpenClaim := { program := "ytiiolloielppeaa", sum := "980964b643220718b948682c5377c6fbfe0bd79d109d32908d9083809f8c9402", func := "loop.example/g01009/laws.FnExactWorkVolumes", spec := "fnExactWorkVolumes", inPlace := ["math/bits.Add64", "math/bits.Sub64"], apart := false }
def FnExactWorkVolumesSaid : Prop := fnExactWorkVolumesRow.holds Try.pinned (OpenSpec.ofChange fnExactWorkVolumesSpec)

/-- ITS FALSE NEIGHBOUR: 'it returns false'. Refute it at one input. -/
def fnExactWorkVolumesWrong : ChangeSpec := { name := "fnExactWorkVolumes", fn := fun _ => fun
  | [d1, d2] => { results := [.lit (.bool false)], args := [d1, d2] }
  | _ => none }
def FnExactWorkVolumesWrongFalsely : Prop := fnExactWorkVolumesRow.holds Try.pinned (OpenSpec.ofChange fnExactWorkVolumesWrong)

/-- 'laws.FnExactPoolVolume': WHATEVER THE INPUT: true; the input reads as it did. -/
def fnExactPoolVolumeSpec : ChangeSpec := { name := "fnExactPoolVolume", fn := fun _ => fun
  | [d1, d2] => { results := [.lit (.bool true)], args := [d1, d2] }
  | _ => none }
def fnExactPoolVolumeRow : OpenClaim := { program := "ytiiolloielppeaa", sum := "980964b643220718b948682c5377c6fbfe0bd79d109d32908d9083809f8c9402", func := "loop.example/g01009/laws.FnExactPoolVolume", spec := "fnExactPoolVolume", inPlace := ["math/bits.Add64", "math/bits.Sub64"], apart := false }
def FnExactPoolVolumeSaid : Prop := fnExactPoolVolumeRow.holds Try.pinned (OpenSpec.ofChange fnExactPoolVolumeSpec)

/-- ITS FALSE NEIGHBOUR: 'it returns false'. Refute it at one input. -/
def fnExactPoolVolumeWrong : ChangeSpec := { name := "fnExactPoolVolume", fn := fun _ => fun
  | [d1, d2] => { results := [.lit (.bool false)], args := [d1, d2] }
  | _ => none }
def FnExactPoolVolumeWrongFalsely : Prop := fnExactPoolVolumeRow.holds Try.pinned (OpenSpec.ofChange fnExactPoolVolumeWrong)

/-- 'laws.FnExactSortBoxes': WHATEVER THE INPUT: true; the input reads as it did. -/
def fnExactSortBoxesSpec : ChangeSpec := { name := "fnExactSortBoxes", fn := fun _ => fun
  | [d] => { results := [.lit (.bool true)], args := [d] }
  | _ => none }
def fnExactSortBoxesRow : OpenClaim := { program := "ytiiolloielppeaa", sum := "980964b643220718b948682c5377c6fbfe0bd79d109d32908d9083809f8c9402", func := "loop.example/g01009/laws.FnExactSortBoxes", spec := "fnExactSortBoxes", unfollowed := true, recurses := true, apart := false }
def FnExactSortBoxesSaid : Prop := fnExactSortBoxesRow.holds Try.pinned (OpenSpec.ofChange fnExactSortBoxesSpec)

/-- ITS FALSE NEIGHBOUR: 'it returns false'. Refute it at one input. -/
def fnExactSortBoxesWrong : ChangeSpec := { name := "fnExactSortBoxes", fn := fun _ => fun
  | [d] => { results := [.lit (.bool false)], args := [d] }
  | _ => none }
def FnExactSortBoxesWrongFalsely : Prop := fnExactSortBoxesRow.holds Try.pinned (OpenSpec.ofChange fnExactSortBoxesWrong)

/-- 'laws.FnExactHaveSameResults': WHATEVER THE INPUT: true; the input reads as it did. -/
def fnExactHaveSameResultsSpec : ChangeSpec := { name := "fnExactHaveSameResults", fn := fun _ => fun
  | [d1, d2, d3] => { results := [.lit (.bool true)], args := [d1, d2, d3] }
  | _ => none }
def fnExactHaveSameResultsRow : OpenClaim := { program := "ytiiolloielppeaa", sum := "980964b643220718b948682c5377c6fbfe0bd79d109d32908d9083809f8c9402", func := "loop.example/g01009/laws.FnExactHaveSameResults", spec := "fnExactHaveSameResults", unfollowed := true, recurses := true, apart := false }
def FnExactHaveSameResultsSaid : Prop := fnExactHaveSameResultsRow.holds Try.pinned (OpenSpec.ofChange fnExactHaveSameResultsSpec)

/-- ITS FALSE NEIGHBOUR: 'it returns false'. Refute it at one input. -/
def fnExactHaveSameResultsWrong : ChangeSpec := { name := "fnExactHaveSameResults", fn := fun _ => fun
  | [d1, d2, d3] => { results := [.lit (.bool false)], args := [d1, d2, d3] }
  | _ => none }
def FnExactHaveSameResultsWrongFalsely : Prop := fnExactHaveSameResultsRow.holds Try.pinned (OpenSpec.ofChange fnExactHaveSameResultsWrong)

/- THE SECOND FORM. 'bulk': how many values and letters a reading holds, each counted each time it is reached (what is shared counts as often as it is met; a slice's spare places count too). A statement '..UptoSaid' is the law's where the arguments, and the package variables that the reading takes, are together of bulk at most 1048576: NARROWER than '..Said'. Prove '..Said' where nothing that the law and all that it calls make is longer than what came in: it says more and counts as full. Else prove '..UptoSaid'. A law counts once. -/
mutual
def uptoBulk {H : Type} : DataW H → Nat
  | .lit (.string bytes) => bytes.length + 1
  | .lit _ => 1
  | .nil => 1
  | .ptr d => uptoBulk d + 1
  | .slice elems spare => uptoBulkAll elems + uptoBulkAll spare + 1
  | .agg parts => uptoBulkAll parts + 1
  | .iface _ d => uptoBulk d + 1
  | .map entries => uptoBulkEntries entries + 1
  | .held _ => 1
def uptoBulkAll {H : Type} : List (DataW H) → Nat
  | [] => 0
  | d :: r => uptoBulk d + uptoBulkAll r
def uptoBulkEntries {H : Type} : List (Lit × DataW H) → Nat
  | [] => 0
  | x :: r => uptoBulkEntry x + uptoBulkEntries r
def uptoBulkEntry {H : Type} : Lit × DataW H → Nat
  | (.string bytes, d) => bytes.length + uptoBulk d + 1
  | (_, d) => uptoBulk d + 1
 end
def uptoSmall : (H : Type) → List (DataW H) → Bool := fun _ ds => decide (uptoBulkAll ds ≤ 1048576)
def OpenSpec.upto (s : _root_.Go.ChangeSpec) : _root_.Go.OpenSpec := { _root_.Go.OpenSpec.ofChange s with cond := some uptoSmall }

/-- 'laws.FnExactAreWorkApart', WHERE WHAT IT READS IS OF BULK AT MOST 1048576: true; the input reads as it did. -/
def fnExactAreWorkApartUptoRow : OpenClaim := { program := "ytiiolloielppeaa", sum := "980964b643220718b948682c5377c6fbfe0bd79d109d32908d9083809f8c9402", func := "loop.example/g01009/laws.FnExactAreWorkApart", spec := "fnExactAreWorkApart", unfollowed := true, recurses := true, apart := false, narrowed := true }
def FnExactAreWorkApartUptoSaid : Prop := fnExactAreWorkApartUptoRow.holds Try.pinned (OpenSpec.upto fnExactAreWorkApartSpec)

/-- 'laws.FnExactMissingVolume', WHERE WHAT IT READS IS OF BULK AT MOST 1048576: true; the input reads as it did. -/
def fnExactMissingVolumeUptoRow : OpenClaim := { program := "ytiiolloielppeaa", sum := "980964b643220718b948682c5377c6fbfe0bd79d109d32908d9083809f8c9402", func := "loop.example/g01009/laws.FnExactMissingVolume", spec := "fnExactMissingVolume", inPlace := ["math/bits.Add64", "math/bits.Sub64"], apart := false, narrowed := true }
def FnExactMissingVolumeUptoSaid : Prop := fnExactMissingVolumeUptoRow.holds Try.pinned (OpenSpec.upto fnExactMissingVolumeSpec)

/-- 'laws.FnExactWorkVolumes', WHERE WHAT IT READS IS OF BULK AT MOST 1048576: true; the input reads as it did. -/
def fnExactWorkVolumesUptoRow : OpenClaim := { program := "ytiiolloielppeaa", sum := "980964b643220718b948682c5377c6fbfe0bd79d109d32908d9083809f8c9402", func := "loop.example/g01009/laws.FnExactWorkVolumes", spec := "fnExactWorkVolumes", inPlace := ["math/bits.Add64", "math/bits.Sub64"], apart := false, narrowed := true }
def FnExactWorkVolumesUptoSaid : Prop := fnExactWorkVolumesUptoRow.holds Try.pinned (OpenSpec.upto fnExactWorkVolumesSpec)

/-- 'laws.FnExactPoolVolume', WHERE WHAT IT READS IS OF BULK AT MOST 1048576: true; the input reads as it did. -/
def fnExactPoolVolumeUptoRow : OpenClaim := { program := "ytiiolloielppeaa", sum := "980964b643220718b948682c5377c6fbfe0bd79d109d32908d9083809f8c9402", func := "loop.example/g01009/laws.FnExactPoolVolume", spec := "fnExactPoolVolume", inPlace := ["math/bits.Add64", "math/bits.Sub64"], apart := false, narrowed := true }
def FnExactPoolVolumeUptoSaid : Prop := fnExactPoolVolumeUptoRow.holds Try.pinned (OpenSpec.upto fnExactPoolVolumeSpec)

/-- 'laws.FnExactSortBoxes', WHERE WHAT IT READS IS OF BULK AT MOST 1048576: true; the input reads as it did. -/
def fnExactSortBoxesUptoRow : OpenClaim := { program := "ytiiolloielppeaa", sum := "980964b643220718b948682c5377c6fbfe0bd79d109d32908d9083809f8c9402", func := "loop.example/g01009/laws.FnExactSortBoxes", spec := "fnExactSortBoxes", unfollowed := true, recurses := true, apart := false, narrowed := true }
def FnExactSortBoxesUptoSaid : Prop := fnExactSortBoxesUptoRow.holds Try.pinned (OpenSpec.upto fnExactSortBoxesSpec)

/-- 'laws.FnExactHaveSameResults', WHERE WHAT IT READS IS OF BULK AT MOST 1048576: true; the input reads as it did. -/
def fnExactHaveSameResultsUptoRow : OpenClaim := { program := "ytiiolloielppeaa", sum := "980964b643220718b948682c5377c6fbfe0bd79d109d32908d9083809f8c9402", func := "loop.example/g01009/laws.FnExactHaveSameResults", spec := "fnExactHaveSameResults", unfollowed := true, recurses := true, apart := false, narrowed := true }
def FnExactHaveSameResultsUptoSaid : Prop := fnExactHaveSameResultsUptoRow.holds Try.pinned (OpenSpec.upto fnExactHaveSameResultsSpec)

end Rows
end Go.Proofs.Ytiiolloielppeaa

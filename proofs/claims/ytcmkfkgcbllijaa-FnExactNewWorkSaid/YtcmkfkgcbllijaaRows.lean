/-
  No cell of these rows narrows 'for every input' (looked for: loops, veiled, ifaces, maps, wideKeys, modest, calm, conditions, laid).
  DERIVED. THE GIVEN ROWS OF THIS SEAT. 6 by the template 'for every input the law returns true; each argument reads behind the call as it read before'; 0 by the template 'total and deterministic' (their statements: YtcmkfkgcbllijaaTotals.lean).
  GIVEN WITH THE SEED: the statements are not yours to turn. If you find one false, say at which input.
  Laid BY PROGRAM, IN A SANDBOX (cutbox-rows.mjs): the forced cells as the released guide's own fill.sh prints them over the translation 663bba561cd6d2fb… (all of the seat's roots in one cut). By AI agents, Wed Nov 11 2026. No macro, syntax, notation, axiom, sorry.
-/
import Derived.Test.YtcmkfkgcbllijaaChecked
import GoSem.Claim
import GoSem.ClaimJoined
import GoSem.ClaimMapViews
import Derived.JoinedTies
import Derived.KernelRfl
namespace Go.Proofs.Ytcmkfkgcbllijaa
/- THE CELL 'sum', in the pinned program and in every row, IS THE sha256 OF THE DUMP (.gsa) THAT YtcmkfkgcbllijaaProg.lean LOADS. Nothing in Lean hashes anything: it is a label: what it is worth is what the hold of that sum in a sandbox is worth. -/
noncomputable def Try.pinned : Pinned := { name := "ytcmkfkgcbllijaa", sum := "663bba561cd6d2fbf6a33f26b193023e85438371626e7bb8cb32ec8fe5615da3", checked := Try.checked }
namespace Rows
def none {H : Type} : Left H := { results := [], args := [] }

/-- 'laws.FnExactIsTree': WHATEVER THE INPUT: true; the input reads as it did. -/
def fnExactIsTreeSpec : ChangeSpec := { name := "fnExactIsTree", fn := fun _ => fun
  | [d1, d2] => { results := [.lit (.bool true)], args := [d1, d2] }
  | _ => none }
def fnExactIsTreeRow : OpenClaim := { program := "ytcmkfkgcbllijaa", sum := "663bba561cd6d2fbf6a33f26b193023e85438371626e7bb8cb32ec8fe5615da3", func := "loop.example/g01009/laws.FnExactIsTree", spec := "fnExactIsTree", recurses := true, apart := false }
def FnExactIsTreeSaid : Prop := fnExactIsTreeRow.holds Try.pinned (OpenSpec.ofChange fnExactIsTreeSpec)

/-- ITS FALSE NEIGHBOUR: 'it returns false'. Refute it at one input. -/
def fnExactIsTreeWrong : ChangeSpec := { name := "fnExactIsTree", fn := fun _ => fun
  | [d1, d2] => { results := [.lit (.bool false)], args := [d1, d2] }
  | _ => none }
def FnExactIsTreeWrongFalsely : Prop := fnExactIsTreeRow.holds Try.pinned (OpenSpec.ofChange fnExactIsTreeWrong)

/-- 'laws.FnExactPathOf': WHATEVER THE INPUT: true; the input reads as it did. -/
def fnExactPathOfSpec : ChangeSpec := { name := "fnExactPathOf", fn := fun _ => fun
  | [d1, d2, d3] => { results := [.lit (.bool true)], args := [d1, d2, d3] }
  | _ => none }
def fnExactPathOfRow : OpenClaim := { program := "ytcmkfkgcbllijaa", sum := "663bba561cd6d2fbf6a33f26b193023e85438371626e7bb8cb32ec8fe5615da3", func := "loop.example/g01009/laws.FnExactPathOf", spec := "fnExactPathOf", recurses := true, apart := false }
def FnExactPathOfSaid : Prop := fnExactPathOfRow.holds Try.pinned (OpenSpec.ofChange fnExactPathOfSpec)

/-- ITS FALSE NEIGHBOUR: 'it returns false'. Refute it at one input. -/
def fnExactPathOfWrong : ChangeSpec := { name := "fnExactPathOf", fn := fun _ => fun
  | [d1, d2, d3] => { results := [.lit (.bool false)], args := [d1, d2, d3] }
  | _ => none }
def FnExactPathOfWrongFalsely : Prop := fnExactPathOfRow.holds Try.pinned (OpenSpec.ofChange fnExactPathOfWrong)

/-- 'laws.FnExactIsFinished': WHATEVER THE INPUT: true; the input reads as it did. -/
def fnExactIsFinishedSpec : ChangeSpec := { name := "fnExactIsFinished", fn := fun _ => fun
  | [d1, d2] => { results := [.lit (.bool true)], args := [d1, d2] }
  | _ => none }
def fnExactIsFinishedRow : OpenClaim := { program := "ytcmkfkgcbllijaa", sum := "663bba561cd6d2fbf6a33f26b193023e85438371626e7bb8cb32ec8fe5615da3", func := "loop.example/g01009/laws.FnExactIsFinished", spec := "fnExactIsFinished", recurses := true, apart := false }
def FnExactIsFinishedSaid : Prop := fnExactIsFinishedRow.holds Try.pinned (OpenSpec.ofChange fnExactIsFinishedSpec)

/-- ITS FALSE NEIGHBOUR: 'it returns false'. Refute it at one input. -/
def fnExactIsFinishedWrong : ChangeSpec := { name := "fnExactIsFinished", fn := fun _ => fun
  | [d1, d2] => { results := [.lit (.bool false)], args := [d1, d2] }
  | _ => none }
def FnExactIsFinishedWrongFalsely : Prop := fnExactIsFinishedRow.holds Try.pinned (OpenSpec.ofChange fnExactIsFinishedWrong)

/-- 'laws.FnExactTreeDepth': WHATEVER THE INPUT: true; the input reads as it did. -/
def fnExactTreeDepthSpec : ChangeSpec := { name := "fnExactTreeDepth", fn := fun _ => fun
  | [d1, d2] => { results := [.lit (.bool true)], args := [d1, d2] }
  | _ => none }
def fnExactTreeDepthRow : OpenClaim := { program := "ytcmkfkgcbllijaa", sum := "663bba561cd6d2fbf6a33f26b193023e85438371626e7bb8cb32ec8fe5615da3", func := "loop.example/g01009/laws.FnExactTreeDepth", spec := "fnExactTreeDepth", recurses := true, apart := false }
def FnExactTreeDepthSaid : Prop := fnExactTreeDepthRow.holds Try.pinned (OpenSpec.ofChange fnExactTreeDepthSpec)

/-- ITS FALSE NEIGHBOUR: 'it returns false'. Refute it at one input. -/
def fnExactTreeDepthWrong : ChangeSpec := { name := "fnExactTreeDepth", fn := fun _ => fun
  | [d1, d2] => { results := [.lit (.bool false)], args := [d1, d2] }
  | _ => none }
def FnExactTreeDepthWrongFalsely : Prop := fnExactTreeDepthRow.holds Try.pinned (OpenSpec.ofChange fnExactTreeDepthWrong)

/-- 'laws.FnExactIsWork': WHATEVER THE INPUT: true; the input reads as it did. -/
def fnExactIsWorkSpec : ChangeSpec := { name := "fnExactIsWork", fn := fun _ => fun
  | [d1, d2] => { results := [.lit (.bool true)], args := [d1, d2] }
  | _ => none }
def fnExactIsWorkRow : OpenClaim := { program := "ytcmkfkgcbllijaa", sum := "663bba561cd6d2fbf6a33f26b193023e85438371626e7bb8cb32ec8fe5615da3", func := "loop.example/g01009/laws.FnExactIsWork", spec := "fnExactIsWork", apart := false }
def FnExactIsWorkSaid : Prop := fnExactIsWorkRow.holds Try.pinned (OpenSpec.ofChange fnExactIsWorkSpec)

/-- ITS FALSE NEIGHBOUR: 'it returns false'. Refute it at one input. -/
def fnExactIsWorkWrong : ChangeSpec := { name := "fnExactIsWork", fn := fun _ => fun
  | [d1, d2] => { results := [.lit (.bool false)], args := [d1, d2] }
  | _ => none }
def FnExactIsWorkWrongFalsely : Prop := fnExactIsWorkRow.holds Try.pinned (OpenSpec.ofChange fnExactIsWorkWrong)

/-- 'laws.FnExactNewWork': WHATEVER THE INPUT: true; the input reads as it did. -/
def fnExactNewWorkSpec : ChangeSpec := { name := "fnExactNewWork", fn := fun _ => fun
  | [d] => { results := [.lit (.bool true)], args := [d] }
  | _ => none }
def fnExactNewWorkRow : OpenClaim := { program := "ytcmkfkgcbllijaa", sum := "663bba561cd6d2fbf6a33f26b193023e85438371626e7bb8cb32ec8fe5615da3", func := "loop.example/g01009/laws.FnExactNewWork", spec := "fnExactNewWork", apart := false }
def FnExactNewWorkSaid : Prop := fnExactNewWorkRow.holds Try.pinned (OpenSpec.ofChange fnExactNewWorkSpec)

/-- ITS FALSE NEIGHBOUR: 'it returns false'. Refute it at one input. -/
def fnExactNewWorkWrong : ChangeSpec := { name := "fnExactNewWork", fn := fun _ => fun
  | [d] => { results := [.lit (.bool false)], args := [d] }
  | _ => none }
def FnExactNewWorkWrongFalsely : Prop := fnExactNewWorkRow.holds Try.pinned (OpenSpec.ofChange fnExactNewWorkWrong)

/- THE SECOND FORM. 'bulk': how many values and letters a reading holds, each counted each time it is reached (what is shared counts as often as it is met; a slice's spare places count too). A statement '..UptoSaid' is the law's where the arguments, and the package variables that the reading takes, are together of bulk at most 1048576: NARROWER than '..Said'. Prove '..Said' where nothing that the law and all that it calls make is longer than what came in: it says more and counts as full. Else prove '..UptoSaid'. A law counts once. -/
mutual
def uptoBulk {H : Type} : DataW H → Nat
  | .lit (.string bytes) => bytes.length + 1
  | .lit _ => 1
  | .nil => 1
  | .ptr d => uptoBulk d + 1
  | .slice elems spare => uptoBulkAll elems + uptoBulkAll spare + 1
  | .agg parts => uptoBulkAll parts + 1
  | .iface _ d => uptoBulk d + 1
  | .map entries => uptoBulkEntries entries + 1
  | .held _ => 1
def uptoBulkAll {H : Type} : List (DataW H) → Nat
  | [] => 0
  | d :: r => uptoBulk d + uptoBulkAll r
def uptoBulkEntries {H : Type} : List (Lit × DataW H) → Nat
  | [] => 0
  | x :: r => uptoBulkEntry x + uptoBulkEntries r
def uptoBulkEntry {H : Type} : Lit × DataW H → Nat
  | (.string bytes, d) => bytes.length + uptoBulk d + 1
  | (_, d) => uptoBulk d + 1
 end
def uptoSmall : (H : Type) → List (DataW H) → Bool := fun _ ds => decide (uptoBulkAll ds ≤ 1048576)
def OpenSpec.upto (s : _root_.Go.ChangeSpec) : _root_.Go.OpenSpec := { _root_.Go.OpenSpec.ofChange s with cond := some uptoSmall }

/-- 'laws.FnExactIsTree', WHERE WHAT IT READS IS OF BULK AT MOST 1048576: true; the input reads as it did. -/
def fnExactIsTreeUptoRow : OpenClaim := { program := "ytcmkfkgcbllijaa", sum := "663bba561cd6d2fbf6a33f26b193023e85438371626e7bb8cb32ec8fe5615da3", func := "loop.example/g01009/laws.FnExactIsTree", spec := "fnExactIsTree", recurses := true, apart := false, narrowed := true }
def FnExactIsTreeUptoSaid : Prop := fnExactIsTreeUptoRow.holds Try.pinned (OpenSpec.upto fnExactIsTreeSpec)

/-- 'laws.FnExactPathOf', WHERE WHAT IT READS IS OF BULK AT MOST 1048576: true; the input reads as it did. -/
def fnExactPathOfUptoRow : OpenClaim := { program := "ytcmkfkgcbllijaa", sum := "663bba561cd6d2fbf6a33f26b193023e85438371626e7bb8cb32ec8fe5615da3", func := "loop.example/g01009/laws.FnExactPathOf", spec := "fnExactPathOf", recurses := true, apart := false, narrowed := true }
def FnExactPathOfUptoSaid : Prop := fnExactPathOfUptoRow.holds Try.pinned (OpenSpec.upto fnExactPathOfSpec)

/-- 'laws.FnExactIsFinished', WHERE WHAT IT READS IS OF BULK AT MOST 1048576: true; the input reads as it did. -/
def fnExactIsFinishedUptoRow : OpenClaim := { program := "ytcmkfkgcbllijaa", sum := "663bba561cd6d2fbf6a33f26b193023e85438371626e7bb8cb32ec8fe5615da3", func := "loop.example/g01009/laws.FnExactIsFinished", spec := "fnExactIsFinished", recurses := true, apart := false, narrowed := true }
def FnExactIsFinishedUptoSaid : Prop := fnExactIsFinishedUptoRow.holds Try.pinned (OpenSpec.upto fnExactIsFinishedSpec)

/-- 'laws.FnExactTreeDepth', WHERE WHAT IT READS IS OF BULK AT MOST 1048576: true; the input reads as it did. -/
def fnExactTreeDepthUptoRow : OpenClaim := { program := "ytcmkfkgcbllijaa", sum := "663bba561cd6d2fbf6a33f26b193023e85438371626e7bb8cb32ec8fe5615da3", func := "loop.example/g01009/laws.FnExactTreeDepth", spec := "fnExactTreeDepth", recurses := true, apart := false, narrowed := true }
def FnExactTreeDepthUptoSaid : Prop := fnExactTreeDepthUptoRow.holds Try.pinned (OpenSpec.upto fnExactTreeDepthSpec)

/-- 'laws.FnExactIsWork', WHERE WHAT IT READS IS OF BULK AT MOST 1048576: true; the input reads as it did. -/
def fnExactIsWorkUptoRow : OpenClaim := { program := "ytcmkfkgcbllijaa", sum := "663bba561cd6d2fbf6a33f26b193023e85438371626e7bb8cb32ec8fe5615da3", func := "loop.example/g01009/laws.FnExactIsWork", spec := "fnExactIsWork", apart := false, narrowed := true }
def FnExactIsWorkUptoSaid : Prop := fnExactIsWorkUptoRow.holds Try.pinned (OpenSpec.upto fnExactIsWorkSpec)

/-- 'laws.FnExactNewWork', WHERE WHAT IT READS IS OF BULK AT MOST 1048576: true; the input reads as it did. -/
def fnExactNewWorkUptoRow : OpenClaim := { program := "ytcmkfkgcbllijaa", sum := "663bba561cd6d2fbf6a33f26b193023e85438371626e7bb8cb32ec8fe5615da3", func := "loop.example/g01009/laws.FnExactNewWork", spec := "fnExactNewWork", apart := false, narrowed := true }
def FnExactNewWorkUptoSaid : Prop := fnExactNewWorkUptoRow.holds Try.pinned (OpenSpec.upto fnExactNewWorkSpec)

end Rows
end Go.Proofs.Ytcmkfkgcbllijaa

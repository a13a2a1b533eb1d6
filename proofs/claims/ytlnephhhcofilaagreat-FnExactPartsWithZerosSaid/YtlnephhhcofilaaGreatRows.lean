/-
  No cell of these rows narrows 'for every input' (looked for: loops, veiled, ifaces, maps, wideKeys, modest, calm, conditions, laid).
  DERIVED. THE GIVEN ROWS OF THIS SEAT. 4 by the template 'for every input the law returns true; each argument reads behind the call as it read before'; 0 by the template 'total and deterministic' (their statements: YtlnephhhcofilaaGreatTotals.lean).
  GIVEN WITH THE SEED: the statements are not yours to turn. If you find one false, say at which input.
  Laid BY PROGRAM, IN A SANDBOX (cutbox-rows.mjs): the forced cells as the released guide's own fill.sh prints them over the translation d628ba7d5e5e5b87… (all of the seat's roots in one cut). By AI agents, Wed Nov 11 2026. No macro, syntax, notation, axiom, sorry.
-/
import Derived.Test.YtlnephhhcofilaaGreatChecked
import GoSem.Claim
import GoSem.ClaimJoined
import GoSem.ClaimMapViews
import Derived.JoinedTies
import Derived.KernelRfl
namespace Go.Proofs.YtlnephhhcofilaaGreat
/- THE CELL 'sum', in the pinned program and in every row, IS THE sha256 OF THE DUMP (.gsa) THAT YtlnephhhcofilaaGreatProg.lean LOADS. Nothing in Lean hashes anything: it is a label: what it is worth is what the hold of that sum in a sandbox is worth. -/
noncomputable def Tryz.pinned : Pinned := { name := "ytlnephhhcofilaagreat", sum := "d628ba7d5e5e5b876106c252da54bbb8714ee1e4b8b94bdb0703ca8bfdc5aa16", checked := Tryz.checked }
namespace Rows
def none {H : Type} : Left H := { results := [], args := [] }

/-- 'laws.FnExactBoxMultiplicity': WHATEVER THE INPUT: true; the input reads as it did. -/
def fnExactBoxMultiplicitySpec : ChangeSpec := { name := "fnExactBoxMultiplicity", fn := fun _ => fun
  | [d1, d2] => { results := [.lit (.bool true)], args := [d1, d2] }
  | _ => none }
def fnExactBoxMultiplicityRow : OpenClaim := { program := "ytlnephhhcofilaagreat", sum := "d628ba7d5e5e5b876106c252da54bbb8714ee1e4b8b94bdb0703ca8bfdc5aa16", func := "loop.example/g01009/laws.FnExactBoxMultiplicity", spec := "fnExactBoxMultiplicity", inPlace := ["math/bits.Add64", "math/bits.Sub64"], unfollowed := true, recurses := true, apart := false }
def FnExactBoxMultiplicitySaid : Prop := fnExactBoxMultiplicityRow.holds Tryz.pinned (OpenSpec.ofChange fnExactBoxMultiplicitySpec)

/-- ITS FALSE NEIGHBOUR: 'it returns false'. Refute it at one input. -/
def fnExactBoxMultiplicityWrong : ChangeSpec := { name := "fnExactBoxMultiplicity", fn := fun _ => fun
  | [d1, d2] => { results := [.lit (.bool false)], args := [d1, d2] }
  | _ => none }
def FnExactBoxMultiplicityWrongFalsely : Prop := fnExactBoxMultiplicityRow.holds Tryz.pinned (OpenSpec.ofChange fnExactBoxMultiplicityWrong)

/-- 'laws.FnExactSignedCount': WHATEVER THE INPUT: true; the input reads as it did. -/
def fnExactSignedCountSpec : ChangeSpec := { name := "fnExactSignedCount", fn := fun _ => fun
  | [d1, d2] => { results := [.lit (.bool true)], args := [d1, d2] }
  | _ => none }
def fnExactSignedCountRow : OpenClaim := { program := "ytlnephhhcofilaagreat", sum := "d628ba7d5e5e5b876106c252da54bbb8714ee1e4b8b94bdb0703ca8bfdc5aa16", func := "loop.example/g01009/laws.FnExactSignedCount", spec := "fnExactSignedCount", inPlace := ["math/bits.Add64", "math/bits.Sub64"], unfollowed := true, recurses := true, apart := false }
def FnExactSignedCountSaid : Prop := fnExactSignedCountRow.holds Tryz.pinned (OpenSpec.ofChange fnExactSignedCountSpec)

/-- ITS FALSE NEIGHBOUR: 'it returns false'. Refute it at one input. -/
def fnExactSignedCountWrong : ChangeSpec := { name := "fnExactSignedCount", fn := fun _ => fun
  | [d1, d2] => { results := [.lit (.bool false)], args := [d1, d2] }
  | _ => none }
def FnExactSignedCountWrongFalsely : Prop := fnExactSignedCountRow.holds Tryz.pinned (OpenSpec.ofChange fnExactSignedCountWrong)

/-- 'laws.FnExactDoAddUp': WHATEVER THE INPUT: true; the input reads as it did. -/
def fnExactDoAddUpSpec : ChangeSpec := { name := "fnExactDoAddUp", fn := fun _ => fun
  | [d1, d2, d3] => { results := [.lit (.bool true)], args := [d1, d2, d3] }
  | _ => none }
def fnExactDoAddUpRow : OpenClaim := { program := "ytlnephhhcofilaagreat", sum := "d628ba7d5e5e5b876106c252da54bbb8714ee1e4b8b94bdb0703ca8bfdc5aa16", func := "loop.example/g01009/laws.FnExactDoAddUp", spec := "fnExactDoAddUp", inPlace := ["math/bits.Add64", "math/bits.Sub64"], unfollowed := true, recurses := true, apart := false }
def FnExactDoAddUpSaid : Prop := fnExactDoAddUpRow.holds Tryz.pinned (OpenSpec.ofChange fnExactDoAddUpSpec)

/-- ITS FALSE NEIGHBOUR: 'it returns false'. Refute it at one input. -/
def fnExactDoAddUpWrong : ChangeSpec := { name := "fnExactDoAddUp", fn := fun _ => fun
  | [d1, d2, d3] => { results := [.lit (.bool false)], args := [d1, d2, d3] }
  | _ => none }
def FnExactDoAddUpWrongFalsely : Prop := fnExactDoAddUpRow.holds Tryz.pinned (OpenSpec.ofChange fnExactDoAddUpWrong)

/-- 'laws.FnExactPartsWithZeros': WHATEVER THE INPUT: true; the input reads as it did. -/
def fnExactPartsWithZerosSpec : ChangeSpec := { name := "fnExactPartsWithZeros", fn := fun _ => fun
  | [d1, d2] => { results := [.lit (.bool true)], args := [d1, d2] }
  | _ => none }
def fnExactPartsWithZerosRow : OpenClaim := { program := "ytlnephhhcofilaagreat", sum := "d628ba7d5e5e5b876106c252da54bbb8714ee1e4b8b94bdb0703ca8bfdc5aa16", func := "loop.example/g01009/laws.FnExactPartsWithZeros", spec := "fnExactPartsWithZeros", inPlace := ["math/bits.Add64", "math/bits.Sub64"], unfollowed := true, recurses := true, apart := false }
def FnExactPartsWithZerosSaid : Prop := fnExactPartsWithZerosRow.holds Tryz.pinned (OpenSpec.ofChange fnExactPartsWithZerosSpec)

/-- ITS FALSE NEIGHBOUR: 'it returns false'. Refute it at one input. -/
def fnExactPartsWithZerosWrong : ChangeSpec := { name := "fnExactPartsWithZeros", fn := fun _ => fun
  | [d1, d2] => { results := [.lit (.bool false)], args := [d1, d2] }
  | _ => none }
def FnExactPartsWithZerosWrongFalsely : Prop := fnExactPartsWithZerosRow.holds Tryz.pinned (OpenSpec.ofChange fnExactPartsWithZerosWrong)

/- THE SECOND FORM. 'bulk': how many values and letters a reading holds, each counted each time it is reached (what is shared counts as often as it is met; a slice's spare places count too). A statement '..UptoSaid' is the law's where the arguments, and the package variables that the reading takes, are together of bulk at most 1048576: NARROWER than '..Said'. Prove '..Said' where nothing that the law and all that it calls make is longer than what came in: it says more and counts as full. Else prove '..UptoSaid'. A law counts once. -/
mutual
def uptoBulk {H : Type} : DataW H → Nat
  | .lit (.string bytes) => bytes.length + 1
  | .lit _ => 1
  | .nil => 1
  | .ptr d => uptoBulk d + 1
  | .slice elems spare => uptoBulkAll elems + uptoBulkAll spare + 1
  | .agg parts => uptoBulkAll parts + 1
  | .iface _ d => uptoBulk d + 1
  | .map entries => uptoBulkEntries entries + 1
  | .held _ => 1
def uptoBulkAll {H : Type} : List (DataW H) → Nat
  | [] => 0
  | d :: r => uptoBulk d + uptoBulkAll r
def uptoBulkEntries {H : Type} : List (Lit × DataW H) → Nat
  | [] => 0
  | x :: r => uptoBulkEntry x + uptoBulkEntries r
def uptoBulkEntry {H : Type} : Lit × DataW H → Nat
  | (.string bytes, d) => bytes.length + uptoBulk d + 1
  | (_, d) => uptoBulk d + 1
 end
def uptoSmall : (H : Type) → List (DataW H) → Bool := fun _ ds => decide (uptoBulkAll ds ≤ 1048576)
def OpenSpec.upto (s : _root_.Go.ChangeSpec) : _root_.Go.OpenSpec := { _root_.Go.OpenSpec.ofChange s with cond := some uptoSmall }

/-- 'laws.FnExactBoxMultiplicity', WHERE WHAT IT READS IS OF BULK AT MOST 1048576: true; the input reads as it did. -/
def fnExactBoxMultiplicityUptoRow : OpenClaim := { program := "ytlnephhhcofilaagreat", sum := "d628ba7d5e5e5b876106c252da54bbb8714ee1e4b8b94bdb0703ca8bfdc5aa16", func := "loop.example/g01009/laws.FnExactBoxMultiplicity", spec := "fnExactBoxMultiplicity", inPlace := ["math/bits.Add64", "math/bits.Sub64"], unfollowed := true, recurses := true, apart := false, narrowed := true }
def FnExactBoxMultiplicityUptoSaid : Prop := fnExactBoxMultiplicityUptoRow.holds Tryz.pinned (OpenSpec.upto fnExactBoxMultiplicitySpec)

/-- 'laws.FnExactSignedCount', WHERE WHAT IT READS IS OF BULK AT MOST 1048576: true; the input reads as it did. -/
def fnExactSignedCountUptoRow : OpenClaim := { program := "ytlnephhhcofilaagreat", sum := "d628ba7d5e5e5b876106c252da54bbb8714ee1e4b8b94bdb0703ca8bfdc5aa16", func := "loop.example/g01009/laws.FnExactSignedCount", spec := "fnExactSignedCount", inPlace := ["math/bits.Add64", "math/bits.Sub64"], unfollowed := true, recurses := true, apart := false, narrowed := true }
def FnExactSignedCountUptoSaid : Prop := fnExactSignedCountUptoRow.holds Tryz.pinned (OpenSpec.upto fnExactSignedCountSpec)

/-- 'laws.FnExactDoAddUp', WHERE WHAT IT READS IS OF BULK AT MOST 1048576: true; the input reads as it did. -/
def fnExactDoAddUpUptoRow : OpenClaim := { program := "ytlnephhhcofilaagreat", sum := "d628ba7d5e5e5b876106c252da54bbb8714ee1e4b8b94bdb0703ca8bfdc5aa16", func := "loop.example/g01009/laws.FnExactDoAddUp", spec := "fnExactDoAddUp", inPlace := ["math/bits.Add64", "math/bits.Sub64"], unfollowed := true, recurses := true, apart := false, narrowed := true }
def FnExactDoAddUpUptoSaid : Prop := fnExactDoAddUpUptoRow.holds Tryz.pinned (OpenSpec.upto fnExactDoAddUpSpec)

/-- 'laws.FnExactPartsWithZeros', WHERE WHAT IT READS IS OF BULK AT MOST 1048576: true; the input reads as it did. -/
def fnExactPartsWithZerosUptoRow : OpenClaim := { program := "ytlnephhhcofilaagreat", sum := "d628ba7d5e5e5b876106c252da54bbb8714ee1e4b8b94bdb0703ca8bfdc5aa16", func := "loop.example/g01009/laws.FnExactPartsWithZeros", spec := "fnExactPartsWithZeros", inPlace := ["math/bits.Add64", "math/bits.Sub64"], unfollowed := true, recurses := true, apart := false, narrowed := true }
def FnExactPartsWithZerosUptoSaid : Prop := fnExactPartsWithZerosUptoRow.holds Tryz.pinned (OpenSpec.upto fnExactPartsWithZerosSpec)

end Rows
end Go.Proofs.YtlnephhhcofilaaGreat

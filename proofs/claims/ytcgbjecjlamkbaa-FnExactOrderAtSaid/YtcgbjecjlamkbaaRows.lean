/-
  No cell of these rows narrows 'for every input' (looked for: loops, veiled, ifaces, maps, wideKeys, modest, calm, conditions, laid).
  DERIVED. THE GIVEN ROWS OF THIS SEAT. 2 by the template 'for every input the law returns true; each argument reads behind the call as it read before'; 0 by the template 'total and deterministic' (their statements: YtcgbjecjlamkbaaTotals.lean).
  GIVEN WITH THE SEED: the statements are not yours to turn. If you find one false, say at which input.
  Laid BY PROGRAM, IN A SANDBOX (cutbox-rows.mjs): the forced cells as the released guide's own fill.sh prints them over the translation 8d668deae53bd2ee… (all of the seat's roots in one cut). By AI agents, Wed Nov 11 2026. No macro, syntax, notation, axiom, sorry.
-/
import Derived.Test.YtcgbjecjlamkbaaChecked
import GoSem.Claim
import GoSem.ClaimJoined
import GoSem.ClaimMapViews
import Derived.JoinedTies
import Derived.KernelRfl
namespace Go.Proofs.Ytcgbjecjlamkbaa
/- THE CELL 'sum', in the pinned program and in every row, IS THE sha256 OF THE DUMP (.gsa) THAT YtcgbjecjlamkbaaProg.lean LOADS. Nothing in Lean hashes anything: it is a label: what it is worth is what the hold of that sum in a sandbox is worth. -/
noncomputable def Try.pinned : Pinned := { name := "ytcgbjecjlamkbaa", sum := "8d668deae53bd2ee52f504624edee0d5e0d7da38b0f36155f1e5441926854fd1", checked := Try.checked }
namespace Rows
def none {H : Type} : Left H := { results := [], args := [] }

/-- 'laws.FnExactDerivativeAt': WHATEVER THE INPUT: true; the input reads as it did. -/
def fnExactDerivativeAtSpec : ChangeSpec := { name := "fnExactDerivativeAt", fn := fun _ => fun
  | [d1, d2, d3] => { results := [.lit (.bool true)], args := [d1, d2, d3] }
  | _ => none }
def fnExactDerivativeAtRow : OpenClaim := { program := "ytcgbjecjlamkbaa", sum := "8d668deae53bd2ee52f504624edee0d5e0d7da38b0f36155f1e5441926854fd1", func := "loop.example/g01009/laws.FnExactDerivativeAt", spec := "fnExactDerivativeAt", unfollowed := true, recurses := true, apart := false }
def FnExactDerivativeAtSaid : Prop := fnExactDerivativeAtRow.holds Try.pinned (OpenSpec.ofChange fnExactDerivativeAtSpec)

/-- ITS FALSE NEIGHBOUR: 'it returns false'. Refute it at one input. -/
def fnExactDerivativeAtWrong : ChangeSpec := { name := "fnExactDerivativeAt", fn := fun _ => fun
  | [d1, d2, d3] => { results := [.lit (.bool false)], args := [d1, d2, d3] }
  | _ => none }
def FnExactDerivativeAtWrongFalsely : Prop := fnExactDerivativeAtRow.holds Try.pinned (OpenSpec.ofChange fnExactDerivativeAtWrong)

/-- 'laws.FnExactOrderAt': WHATEVER THE INPUT: true; the input reads as it did. -/
def fnExactOrderAtSpec : ChangeSpec := { name := "fnExactOrderAt", fn := fun _ => fun
  | [d1, d2] => { results := [.lit (.bool true)], args := [d1, d2] }
  | _ => none }
def fnExactOrderAtRow : OpenClaim := { program := "ytcgbjecjlamkbaa", sum := "8d668deae53bd2ee52f504624edee0d5e0d7da38b0f36155f1e5441926854fd1", func := "loop.example/g01009/laws.FnExactOrderAt", spec := "fnExactOrderAt", unfollowed := true, recurses := true, apart := false }
def FnExactOrderAtSaid : Prop := fnExactOrderAtRow.holds Try.pinned (OpenSpec.ofChange fnExactOrderAtSpec)

/-- ITS FALSE NEIGHBOUR: 'it returns false'. Refute it at one input. -/
def fnExactOrderAtWrong : ChangeSpec := { name := "fnExactOrderAt", fn := fun _ => fun
  | [d1, d2] => { results := [.lit (.bool false)], args := [d1, d2] }
  | _ => none }
def FnExactOrderAtWrongFalsely : Prop := fnExactOrderAtRow.holds Try.pinned (OpenSpec.ofChange fnExactOrderAtWrong)

/- THE SECOND FORM. 'bulk': how many values and letters a reading holds, each counted each time it is reached (what is shared counts as often as it is met; a slice's spare places count too). A statement '..UptoSaid' is the law's where the arguments, and the package variables that the reading takes, are together of bulk at most 1048576: NARROWER than '..Said'. Prove '..Said' where nothing that the law and all that it calls make is longer than what came in: it says more and counts as full. Else prove '..UptoSaid'. A law counts once. -/
mutual
def uptoBulk {H : Type} : DataW H → Nat
  | .lit (.string bytes) => bytes.length + 1
  | .lit _ => 1
  | .nil => 1
  | .ptr d => uptoBulk d + 1
  | .slice elems spare => uptoBulkAll elems + uptoBulkAll spare + 1
  | .agg parts => uptoBulkAll parts + 1
  | .iface _ d => uptoBulk d + 1
  | .map entries => uptoBulkEntries entries + 1
  | .held _ => 1
def uptoBulkAll {H : Type} : List (DataW H) → Nat
  | [] => 0
  | d :: r => uptoBulk d + uptoBulkAll r
def uptoBulkEntries {H : Type} : List (Lit × DataW H) → Nat
  | [] => 0
  | x :: r => uptoBulkEntry x + uptoBulkEntries r
def uptoBulkEntry {H : Type} : Lit × DataW H → Nat
  | (.string bytes, d) => bytes.length + uptoBulk d + 1
  | (_, d) => uptoBulk d + 1
 end
def uptoSmall : (H : Type) → List (DataW H) → Bool := fun _ ds => decide (uptoBulkAll ds ≤ 1048576)
def OpenSpec.upto (s : _root_.Go.ChangeSpec) : _root_.Go.OpenSpec := { _root_.Go.OpenSpec.ofChange s with cond := some uptoSmall }

/-- 'laws.FnExactDerivativeAt', WHERE WHAT IT READS IS OF BULK AT MOST 1048576: true; the input reads as it did. -/
def fnExactDerivativeAtUptoRow : OpenClaim := { program := "ytcgbjecjlamkbaa", sum := "8d668deae53bd2ee52f504624edee0d5e0d7da38b0f36155f1e5441926854fd1", func := "loop.example/g01009/laws.FnExactDerivativeAt", spec := "fnExactDerivativeAt", unfollowed := true, recurses := true, apart := false, narrowed := true }
def FnExactDerivativeAtUptoSaid : Prop := fnExactDerivativeAtUptoRow.holds Try.pinned (OpenSpec.upto fnExactDerivativeAtSpec)

/-- 'laws.FnExactOrderAt', WHERE WHAT IT READS IS OF BULK AT MOST 1048576: true; the input reads as it did. -/
def fnExactOrderAtUptoRow : OpenClaim := { program := "ytcgbjecjlamkbaa", sum := "8d668deae53bd2ee52f504624edee0d5e0d7da38b0f36155f1e5441926854fd1", func := "loop.example/g01009/laws.FnExactOrderAt", spec := "fnExactOrderAt", unfollowed := true, recurses := true, apart := false, narrowed := true }
def FnExactOrderAtUptoSaid : Prop := fnExactOrderAtUptoRow.holds Try.pinned (OpenSpec.upto fnExactOrderAtSpec)

end Rows
end Go.Proofs.Ytcgbjecjlamkbaa

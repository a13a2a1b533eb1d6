/- Contracts of functions, facts of types, or the plain law behind one statement (own work): A1. Conditions: those told in each theorem. -/
import Derived.Test.YtcmkfkgcbllijaaTF
import Derived.Test.YtcmkfkgcbllijaaC1
import Derived.WalkKit
import Derived.ProofKit
import Derived.OpenShut
import Derived.ShutString
import Derived.ChangeOld
import Derived.SizedLaws
set_option linter.all false
set_option linter.unusedSimpArgs false
set_option linter.unusedVariables false
namespace Go.Proofs.Ytcmkfkgcbllijaa
open Go Go.V Go.ChangeShapes Go.WideShapes Go.ChangeAt Go.RowKit

instance : ArgT Nd where
  ty := fun P t => ∃ f0 f1, P.underlying t = some (.struct #[f0, f1]) ∧ P.cellsOf t = 2 ∧ f0.offset = 0 ∧ f1.offset = 1 ∧ P.cellsOf f0.type = 1 ∧ P.cellsOf f1.type = 1 ∧ ArgT.ty Int P f0.type ∧ ArgT.ty Int P f1.type
  opens := by
    intro H enc P W fuel t cs x ⟨f0, f1, ht, hc, o0, o1, s0, s1, t0, t1⟩ hx
    obtain ⟨y0, y1, n, _, hl, h0, h1⟩ := trod_struct2 ht hx
    rw [hc] at hl
    rw [o0, s0] at h0
    rw [o1, s1] at h1
    match cs, hl with
    | [a, b], _ => exact Opens.iso (α := Int × Int) (β := Nd) (fun x => (x.kind, x.num)) (fun y => ⟨y.1, y.2⟩) (fun _ => rfl) (Opens.pair (ArgT.opens (α := Int) t0 h0) (ArgT.opens (α := Int) t1 h1))

theorem tyNodeS : ArgT.ty (List Nd) Try.prog 22 := ⟨_, Try.underlying22, by kernel_rfl, by decide, _, _, Try.underlying63, by kernel_rfl, rfl, rfl, by kernel_rfl, by kernel_rfl, Try.underlying3, Try.underlying3⟩
end Go.Proofs.Ytcmkfkgcbllijaa

/- Contracts of functions, facts of types, or the plain law behind one statement (own work): FA. Conditions: those told in each theorem. -/
import Derived.Test.YtcgbjecjlamkbaaY0
import Derived.WalkKit
import Derived.ProofKit
import Derived.OpenShut
import Derived.ShutString
import Derived.ChangeOld
import Derived.SizedLaws
set_option linter.all false
set_option linter.unusedSimpArgs false
set_option linter.unusedVariables false
set_option maxRecDepth 4000
namespace Go.Proofs.Ytcgbjecjlamkbaa
open Go Go.V
open Go.ChangeShapes Go.WideShapes Go.ChangeAt Go.RowKit
instance : ArgT Dy where
  ty := fun P t => ∃ f0 f1, P.underlying t = some (.struct #[f0, f1]) ∧ P.cellsOf t = 2 ∧ f0.offset = 0 ∧ f1.offset = 1 ∧ P.cellsOf f0.type = 1 ∧ P.cellsOf f1.type = 1 ∧ ArgT.ty Int P f0.type ∧ ArgT.ty Int P f1.type
  opens := by
    intro H enc P W fuel t cs x ⟨f0, f1, ht, hc, o0, o1, s0, s1, t0, t1⟩ hx
    obtain ⟨xs, n, _, rfl, hl, hlen, hf⟩ := DataW.trod_struct ht hx
    rw [hc] at hl
    match xs, hlen with
    | [y0, y1], _ =>
      have h0 := hf 0 f0 rfl
      rw [o0, s0] at h0
      have h1 := hf 1 f1 rfl
      rw [o1, s1] at h1
      exact Opens.iso (α := Int × Int) (β := Dy) (fun x => (x.n, x.k)) (fun y => ⟨y.1, y.2⟩) (fun _ => rfl) (Opens.whole hl (Opens.cut (cs := cs) (o := 0) (a := 1) (b := 1) (ArgT.opens (α := Int) t0 h0) (ArgT.opens (α := Int) t1 h1)))
theorem tyDyadic : ArgT.ty Dy Try.prog 24 := ⟨_, _, Try.underlying24, by kernel_rfl, rfl, rfl, by kernel_rfl, by kernel_rfl, Try.underlying3, Try.underlying3⟩
end Go.Proofs.Ytcgbjecjlamkbaa

/- Contracts of functions, facts of types, or the plain law behind one statement (own work): JA. Conditions: those told in each theorem. -/
import Derived.Test.YtdlahbagdkfgmaaGreatDoorJ1
import Derived.WalkKit
import Derived.ProofKit
import Derived.OpenShut
import Derived.ShutString
import Derived.ChangeOld
import Derived.SizedLaws
set_option linter.all false
set_option linter.unusedSimpArgs false
set_option linter.unusedVariables false
set_option maxRecDepth 4000
namespace Go.Proofs.YtdlahbagdkfgmaaGreatDoor
open Go Go.V
open Go.ChangeShapes Go.WideShapes Go.ChangeAt Go.RowKit
instance : ArgT Mk where
  ty := fun P t => ∃ f0 f1, P.underlying t = some (.struct #[f0, f1]) ∧ P.cellsOf t = 2 ∧ f0.offset = 0 ∧ f1.offset = 1 ∧ P.cellsOf f0.type = 1 ∧ P.cellsOf f1.type = 1 ∧ ArgT.ty ByteArray P f0.type ∧ ArgT.ty Int P f1.type
  opens := by
    intro H enc P W fuel t cs x ⟨f0, f1, ht, hc, o0, o1, s0, s1, t0, t1⟩ hx
    obtain ⟨xs, n, _, rfl, hl, hlen, hf⟩ := DataW.trod_struct ht hx
    rw [hc] at hl
    match xs, hlen with
    | [y0, y1], _ =>
      have h0 := hf 0 f0 rfl
      rw [o0, s0] at h0
      have h1 := hf 1 f1 rfl
      rw [o1, s1] at h1
      exact Opens.iso (α := ByteArray × Int) (β := Mk) (fun x => (x.path, x.kind)) (fun y => ⟨y.1, y.2⟩) (fun _ => rfl) (Opens.whole hl (Opens.cut (cs := cs) (o := 0) (a := 1) (b := 1) (ArgT.opens (α := ByteArray) t0 h0) (ArgT.opens (α := Int) t1 h1)))
instance : ArgT Jn where
  ty := fun P t => ∃ f0 f1, P.underlying t = some (.struct #[f0, f1]) ∧ P.cellsOf t = 2 ∧ f0.offset = 0 ∧ f1.offset = 1 ∧ P.cellsOf f0.type = 1 ∧ P.cellsOf f1.type = 1 ∧ ArgT.ty ByteArray P f0.type ∧ ArgT.ty ByteArray P f1.type
  opens := by
    intro H enc P W fuel t cs x ⟨f0, f1, ht, hc, o0, o1, s0, s1, t0, t1⟩ hx
    obtain ⟨xs, n, _, rfl, hl, hlen, hf⟩ := DataW.trod_struct ht hx
    rw [hc] at hl
    match xs, hlen with
    | [y0, y1], _ =>
      have h0 := hf 0 f0 rfl
      rw [o0, s0] at h0
      have h1 := hf 1 f1 rfl
      rw [o1, s1] at h1
      exact Opens.iso (α := ByteArray × ByteArray) (β := Jn) (fun x => (x.safe, x.pending)) (fun y => ⟨y.1, y.2⟩) (fun _ => rfl) (Opens.whole hl (Opens.cut (cs := cs) (o := 0) (a := 1) (b := 1) (ArgT.opens (α := ByteArray) t0 h0) (ArgT.opens (α := ByteArray) t1 h1)))
theorem tyJournal : ArgT.ty Jn Tryz.prog 23 := ⟨_, _, Tryz.underlying23, by kernel_rfl, rfl, rfl, by kernel_rfl, by kernel_rfl, Tryz.underlying9, Tryz.underlying9⟩
end Go.Proofs.YtdlahbagdkfgmaaGreatDoor

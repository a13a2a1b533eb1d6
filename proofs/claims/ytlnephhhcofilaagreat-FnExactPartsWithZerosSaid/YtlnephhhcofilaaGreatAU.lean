/- Contracts of functions, facts of types, or the plain law behind one statement (own work): AU. Conditions: those told in each theorem. -/
import Derived.Test.YtlnephhhcofilaaGreatHT
import Derived.Test.YtlnephhhcofilaaGreatH3
import Derived.WalkKit
import Derived.ProofKit
import Derived.OpenShut
import Derived.ShutString
import Derived.ChangeOld
import Derived.SizedLaws
set_option linter.all false
set_option linter.unusedSimpArgs false
set_option linter.unusedVariables false
set_option maxRecDepth 4000
namespace Go.Proofs.YtlnephhhcofilaaGreat
open Go Go.V
open Go.ChangeShapes Go.WideShapes Go.ChangeAt Go.RowKit
instance : ArgT Tm where
  ty := fun P t => ∃ f0 f1 f2 f3, P.underlying t = some (.struct #[f0, f1, f2, f3]) ∧ P.cellsOf t = 4 ∧ f0.offset = 0 ∧ f1.offset = 1 ∧ f2.offset = 2 ∧ f3.offset = 3 ∧ P.cellsOf f0.type = 1 ∧ P.cellsOf f1.type = 1 ∧ P.cellsOf f2.type = 1 ∧ P.cellsOf f3.type = 1 ∧ ArgT.ty Int P f0.type ∧ ArgT.ty Int P f1.type ∧ ArgT.ty Int P f2.type ∧ ArgT.ty Int P f3.type
  opens := by
    intro H enc P W fuel t cs x ⟨f0, f1, f2, f3, ht, hc, o0, o1, o2, o3, s0, s1, s2, s3, t0, t1, t2, t3⟩ hx
    obtain ⟨xs, n, _, rfl, hl, hlen, hf⟩ := DataW.trod_struct ht hx
    rw [hc] at hl
    match xs, hlen with
    | [y0, y1, y2, y3], _ =>
      have h0 := hf 0 f0 rfl
      rw [o0, s0] at h0
      have h1 := hf 1 f1 rfl
      rw [o1, s1] at h1
      have h2 := hf 2 f2 rfl
      rw [o2, s2] at h2
      have h3 := hf 3 f3 rfl
      rw [o3, s3] at h3
      exact Opens.iso (α := Int × Int × Int × Int) (β := Tm) (fun x => (x.c, x.x, x.y, x.z)) (fun y => ⟨y.1, y.2.1, y.2.2.1, y.2.2.2⟩) (fun _ => rfl) (Opens.whole hl (Opens.cut (cs := cs) (o := 0) (a := 1) (b := 3) (ArgT.opens (α := Int) t0 h0) (Opens.cut (cs := cs) (o := 1) (a := 1) (b := 2) (ArgT.opens (α := Int) t1 h1) (Opens.cut (cs := cs) (o := 2) (a := 1) (b := 1) (ArgT.opens (α := Int) t2 h2) (ArgT.opens (α := Int) t3 h3)))))
theorem tyTerm : ArgT.ty Tm Tryz.prog 77 := ⟨_, _, _, _, Tryz.underlying77, by kernel_rfl, rfl, rfl, rfl, rfl, by kernel_rfl, by kernel_rfl, by kernel_rfl, by kernel_rfl, Tryz.underlying3, Tryz.underlying3, Tryz.underlying3, Tryz.underlying3⟩
instance : ArgT Bx where
  ty := fun P t => ∃ f0 f1 f2, P.underlying t = some (.struct #[f0, f1, f2]) ∧ P.cellsOf t = 3 ∧ f0.offset = 0 ∧ f1.offset = 1 ∧ f2.offset = 2 ∧ P.cellsOf f0.type = 1 ∧ P.cellsOf f1.type = 1 ∧ P.cellsOf f2.type = 1 ∧ ArgT.ty Int P f0.type ∧ ArgT.ty (List Int) P f1.type ∧ ArgT.ty (List Int) P f2.type
  opens := by
    intro H enc P W fuel t cs x ⟨f0, f1, f2, ht, hc, o0, o1, o2, s0, s1, s2, t0, t1, t2⟩ hx
    obtain ⟨xs, n, _, rfl, hl, hlen, hf⟩ := DataW.trod_struct ht hx
    rw [hc] at hl
    match xs, hlen with
    | [y0, y1, y2], _ =>
      have h0 := hf 0 f0 rfl
      rw [o0, s0] at h0
      have h1 := hf 1 f1 rfl
      rw [o1, s1] at h1
      have h2 := hf 2 f2 rfl
      rw [o2, s2] at h2
      exact Opens.iso (α := Int × (List Int) × (List Int)) (β := Bx) (fun x => (x.k, x.low, x.high)) (fun y => ⟨y.1, y.2.1, y.2.2⟩) (fun _ => rfl) (Opens.whole hl (Opens.cut (cs := cs) (o := 0) (a := 1) (b := 2) (ArgT.opens (α := Int) t0 h0) (Opens.cut (cs := cs) (o := 1) (a := 1) (b := 1) (ArgT.opens (α := (List Int)) t1 h1) (ArgT.opens (α := (List Int)) t2 h2))))
theorem tyBox : ArgT.ty Bx Tryz.prog 25 := ⟨_, _, _, Tryz.underlying25, by kernel_rfl, rfl, rfl, rfl, by kernel_rfl, by kernel_rfl, by kernel_rfl, Tryz.underlying3, ⟨_, Tryz.underlying23, by kernel_rfl, by decide, Tryz.underlying3⟩, ⟨_, Tryz.underlying23, by kernel_rfl, by decide, Tryz.underlying3⟩⟩
theorem tyTermSS : ArgT.ty (List (List Tm)) Tryz.prog 22 := ⟨_, Tryz.underlying22, by kernel_rfl, by decide, _, Tryz.underlying54, by kernel_rfl, by decide, tyTerm⟩
end Go.Proofs.YtlnephhhcofilaaGreat

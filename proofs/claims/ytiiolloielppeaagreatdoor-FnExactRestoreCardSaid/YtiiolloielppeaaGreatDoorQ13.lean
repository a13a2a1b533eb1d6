/- Contracts of functions, facts of types, or the plain law behind one statement (own work): Q13. Conditions: those told in each theorem. -/
import Derived.Test.YtiiolloielppeaaGreatDoorQ12
import Derived.Test.YtiiolloielppeaaGreatDoorK2
set_option linter.all false
set_option linter.unusedSimpArgs false
set_option linter.unusedVariables false
set_option maxRecDepth 4000
namespace Go.Proofs
open Go Go.V
theorem cnt_ints (l : List Int) : cntL l = l.length := by
  induction l with
  | nil => rfl
  | cons y l ih => have : cntL (y :: l) = 1 + cntL l := rfl
                   simp [this, ih]; omega
theorem cnt_boxes : ∀ l : List Bx, (∀ x ∈ l, boxM x = true) → cntL l ≤ 7 * l.length
  | [], _ => Nat.le_refl _
  | x :: l, h => by
    have ih := cnt_boxes l fun y hy => h y (by simp [hy])
    obtain ⟨_, h2, h3, _⟩ := box_small (h x (by simp))
    have : cntL (x :: l) = (1 + cntL x.low + cntL x.high) + cntL l := rfl
    rw [this, cnt_ints, cnt_ints, List.length_cons]; omega
theorem work_cnt {w : Wk} {t : Int} (h : workM w t = true) : Mrk.cnt w ≤ 2000 := by
  have hb := work_box h
  have e : Mrk.cnt w = cntL w.opened + cntL w.free + cntL w.holds + cntL w.kept := rfl
  have h1 := hb w.opened (by simp [lists])
  have h2 := hb w.free (by simp [lists])
  have h3 := hb w.holds (by simp [lists])
  have h4 := hb w.kept (by simp [lists])
  have k1 := cnt_boxes _ h1.2
  have k2 := cnt_boxes _ h2.2
  have k3 := cnt_boxes _ h3.2
  have k4 := cnt_boxes _ h4.2
  omega
theorem parse_cnt (s : ByteArray) (t : Int) : Mrk.cnt (parseV s t) ≤ 2000 := by
  unfold parseV
  cases h : workI s.data.toList t with
  | none => exact (by decide : Mrk.cnt wkZ ≤ 2000)
  | some w => exact work_cnt (workI_some h).1
end Go.Proofs

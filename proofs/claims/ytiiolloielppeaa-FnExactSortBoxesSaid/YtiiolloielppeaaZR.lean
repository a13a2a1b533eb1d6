/- Contracts of functions, facts of types, or the plain law behind one statement (own work): ZR. Conditions: those told in each theorem. -/
import Derived.Test.YtiiolloielppeaaZQ
import Derived.Test.YtiiolloielppeaaK2
set_option linter.all false
set_option linter.unusedSimpArgs false
set_option linter.unusedVariables false
set_option maxRecDepth 4000
namespace Go.Proofs
open Go Go.V
theorem cnt_ints (l : List Int) : cntL l = l.length := by
  induction l with
  | nil => rfl
  | cons y l ih =>
    have : cntL (y :: l) = 1 + cntL l := rfl
    rw [this, ih, List.length_cons]; omega
theorem cnt_boxes {l : List Bx} (h : ∀ x ∈ l, boxM x = true) : cntL l ≤ 7 * l.length := by
  induction l with
  | nil => exact Nat.le_refl _
  | cons x l ih =>
    have e : cntL (x :: l) = (1 + cntL x.low + cntL x.high) + cntL l := rfl
    obtain ⟨_, _, h3, h4, _⟩ := box_k (h x (by simp))
    have := ih fun y hy => h y (by simp [hy])
    rw [e, cnt_ints, cnt_ints, List.length_cons]
    omega
theorem sort_cnt (l : List Bx) : cntL (sortAllM l).1 ≤ 1000 := by
  unfold sortAllM
  split
  · rename_i c
    rw [Bool.and_eq_true, decide_eq_true_eq] at c
    have hl : (sortM l).length = l.length := (sortM_perm l).length_eq
    have := cnt_boxes (l := sortM l) fun x hx => (okB_gd (List.all_eq_true.1 c.1 x ((sortM_perm l).mem_iff.1 hx))).1
    simp only []
    omega
  · exact Nat.zero_le _
end Go.Proofs

/- Contracts of functions, facts of types, or the plain law behind one statement (own work): T0. Conditions: those told in each theorem. -/
import Derived.Test.YtkapgaajomaheaaGreatDoorTG
import Derived.Lib.LaidTab
set_option linter.all false
namespace Go.Proofs
open Go Go.V Go.RowKit Go.ChangeShapes
theorem tab_below {P : Program} {B : Nat} {W W' : World} {name : String} {k : IntKind} {zs : List Int} (h : Lib.TabIs P W name k zs) (b : Below W.heap.size W W') : Lib.TabIs P W' name k zs := by
  unfold Lib.TabIs World.var? at h ⊢
  cases hg : P.globalNamed name with
  | none => rw [hg] at h; cases h
  | some g =>
    rw [hg] at h
    simp only [Option.bind_some] at h ⊢
    have lt : g < W.heap.size := by
      cases hb : W.heap[g]? with
      | none => rw [hb] at h; cases h
      | some x => exact (Array.getElem?_eq_some_iff.1 hb).1
    rw [b.block g lt]; exact h
end Go.Proofs

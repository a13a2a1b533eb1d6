/- Contracts of functions, facts of types, or the plain law behind one statement (own work): YU. Conditions: those told in each theorem. -/
import Derived.Test.YtiiolloielppeaaYT
import Derived.Test.YtiiolloielppeaaK4
set_option linter.all false
set_option linter.unusedSimpArgs false
set_option linter.unusedVariables false
set_option maxRecDepth 4000
namespace Go.Proofs
open Go Go.V
def missV (x : Bx) (y : Wk) : Dy := (missM x y).getD ⟨0, 0⟩
theorem GoodO.sz {o : Option Dy} (g : GoodO o) : inI64 (o.getD ⟨0, 0⟩).n ∧ inI64 (o.getD ⟨0, 0⟩).k := by
  have d := g.get
  have := d.n0; have := d.n1; have := d.k0; have := d.k1
  exact ⟨⟨by omega, by omega⟩, ⟨by omega, by omega⟩⟩
theorem missV_sz (x : Bx) (y : Wk) : inI64 (missV x y).n ∧ inI64 (missV x y).k := by
  unfold missV
  refine GoodO.sz ?_
  unfold missM
  split
  · rename_i h
    have hg : GoodO (some (volM x)) := by intro d hd; cases hd; exact (volM_eq h.1).2
    have := restL_good hg (volsR (lists y)).1 (volsR (lists y)).1.length
    rw [List.take_length] at this
    exact this
  · intro d hd; cases hd
theorem MissingVolume_s' {x : Bx} {y : Wk} {cs ds : List Value} {h : Heap} {Q : Value → Heap → Prop} (hx : Here h x cs) (hy : Here h y ds) (hQ : ∀ h', Ext h h' → Q (.tuple #[.agg #[.int .i64 (missV x y).n, .int .i64 (missV x y).k], .bool (missM x y).isSome]) h') :
    CallsV Try.prog 15 [.agg cs.toArray, .agg ds.toArray] h Q := MissingVolume_s hx hy hQ
theorem MissingVolume_i' {x : Bx} {y : Wk} {cs ds : List Value} {h : Heap} {Q : Value → Heap → Prop} (hx : Here h x cs) (hy : Here h y ds) (hQ : ∀ h', Ext h h' → Q (.tuple #[.agg #[.int .i64 (missV x y).n, .int .i64 (missV x y).k], .bool (missM x y).isSome]) h') :
    CallsV Try.prog 17 [.agg cs.toArray, .agg ds.toArray] h Q := MissingVolume_i hx hy hQ
end Go.Proofs

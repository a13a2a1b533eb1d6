/- Contracts of functions, facts of types, or the plain law behind one statement (own work): YU2. Conditions: those told in each theorem. -/
import Derived.Test.YtiiolloielppeaaYW2
import Derived.Test.YtiiolloielppeaaYU
set_option linter.all false
set_option linter.unusedSimpArgs false
set_option linter.unusedVariables false
set_option maxRecDepth 4000
namespace Go.Proofs
open Go Go.V
def poolVV (x : Pl) (t : Int) : Dy := (poolVM x t).getD ⟨0, 0⟩
theorem poolVV_sz (x : Pl) (t : Int) : inI64 (poolVV x t).n ∧ inI64 (poolVV x t).k := by
  unfold poolVV
  refine GoodO.sz ?_
  unfold poolVM
  split
  · have := addL_good good00 (poolVs x) (poolVs x).length
    rw [List.take_length] at this
    exact this
  · intro d hd; cases hd
theorem PoolVolume_s' {x : Pl} {t : Int} {cs : List Value} {h : Heap} {Q : Value → Heap → Prop} (hx : Here h x cs) (hQ : ∀ h', Ext h h' → Q (.tuple #[.agg #[.int .i64 (poolVV x t).n, .int .i64 (poolVV x t).k], .bool (poolVM x t).isSome]) h') :
    CallsV Try.prog 27 [.agg cs.toArray, .int .i64 t] h Q := PoolVolume_s hx hQ
theorem PoolVolume_i' {x : Pl} {t : Int} {cs : List Value} {h : Heap} {Q : Value → Heap → Prop} (hx : Here h x cs) (hQ : ∀ h', Ext h h' → Q (.tuple #[.agg #[.int .i64 (poolVV x t).n, .int .i64 (poolVV x t).k], .bool (poolVM x t).isSome]) h') :
    CallsV Try.prog 29 [.agg cs.toArray, .int .i64 t] h Q := PoolVolume_i hx hQ
end Go.Proofs

/- The layer V, part 23: structs compared. -/
import Derived.Test.YtheliocfcjkbhaaDoorV22
import Derived.Laws.StructEq
set_option linter.all false
namespace Go.V
open Go Go.RowKit

theorem run_isAgg_int {P : Program} {t : TypeId} {k : IntKind} (h : P.underlying t = some (.int k)) (w : World) : (isAgg t).run P w = .ok false w := by
  simp [isAgg, run_underlying h]

theorem binC_eq2 {P : Program} {t : TypeId} {f0 f1 : Field} {k0 k1 : IntKind} {a b c d : Int} {xo yo : Operand} {K : Value → Prop} (ht : P.underlying t = some (.struct #[f0, f1])) (n0 : f0.name ≠ "_") (n1 : f1.name ≠ "_") (o0 : f0.offset = 0) (o1 : f1.offset = 1)
    (t0 : P.underlying f0.type = some (.int k0)) (t1 : P.underlying f1.type = some (.int k1)) (hp : P.stoodInHeld t = false) (hm : P.eqGuardType P.depth t = false)
    (hK : K (.bool (decide (a = c) && decide (b = d)))) : BinC P .eql t xo yo (.agg #[.int k0 a, .int k1 b]) (.agg #[.int k0 c, .int k1 d]) K := by
  have hf : P.fieldsOf t = #[f0, f1] := by unfold Program.fieldsOf; rw [ht]
  refine ⟨rfl, rfl, _, rfl, fun w => ?_, hK⟩
  rw [Sem.run_bind, run_eqGuard_agg w .eql t xo yo _ _ hm, Result.andThen_ok, run_eql_struct, run_equalIn_agg w 9999 t _ _ (by rw [hf]; exact ht) hp, hf]
  have e0 : (a == c) = decide (a = c) := by rw [Bool.eq_iff_iff]; simp
  have e1 : (b == d) = decide (b = d) := by rw [Bool.eq_iff_iff]; simp
  by_cases hac : a = c
  · by_cases hbd : b = d
    · simp [Op.eqFields, n0, n1, o0, o1, part, run_isAgg_int t0, run_isAgg_int t1, run_equalIn_int _ _ _ _ _ _ _ t0, run_equalIn_int _ _ _ _ _ _ _ t1, hac, hbd]
    · simp [Op.eqFields, n0, n1, o0, o1, part, run_isAgg_int t0, run_isAgg_int t1, run_equalIn_int _ _ _ _ _ _ _ t0, run_equalIn_int _ _ _ _ _ _ _ t1, hac, hbd]
  · simp [Op.eqFields, n0, n1, o0, o1, part, run_isAgg_int t0, run_isAgg_int t1, run_equalIn_int _ _ _ _ _ _ _ t0, run_equalIn_int _ _ _ _ _ _ _ t1, hac]

theorem s_max2 (P : Program) (t0 t1 : TypeId) (k : IntKind) (x y : Int) (h : Heap) (K : Value → Heap → Prop) : builtinV P .max #[t0, t1] [.int k x, .int k y] h K = K (.int k (max x y)) h := by
  have e : maxV [.int k x, .int k y] = some (.int k (max x y)) := by
    simp only [maxV, foldV, max2V, ↓reduceIte, Option.bind_some]
    congr 2
    omega
  simp only [builtinV, e]
theorem s_min2 (P : Program) (t0 t1 : TypeId) (k : IntKind) (x y : Int) (h : Heap) (K : Value → Heap → Prop) : builtinV P .min #[t0, t1] [.int k x, .int k y] h K = K (.int k (min x y)) h := by
  have e : minV [.int k x, .int k y] = some (.int k (min x y)) := by
    simp only [minV, foldV, min2V, ↓reduceIte, Option.bind_some]
    congr 2
    omega
  simp only [builtinV, e]
theorem b_eq_agg (k : Nat) (a b : Array Value) : binV .eql k (.agg a) (.agg b) = none := by simp [binV, eqV]
theorem b_ne_agg (k : Nat) (a b : Array Value) : binV .neq k (.agg a) (.agg b) = none := by simp [binV, eqV]
theorem s_binK_none (P : Program) (op : BinOp) (t : TypeId) (xo yo : Operand) (x y : Value) (K : Value → Heap → Prop) (h : Heap) : binK P none op t xo yo x y K h = BinC P op t xo yo x y fun v => K v h := rfl
def VZ := And.intro @s_max2 (And.intro @s_min2 (And.intro @b_eq_agg (And.intro @b_ne_agg @s_binK_none)))
end Go.V

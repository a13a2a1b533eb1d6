/- Contracts of functions, facts of types, or the plain law behind one statement (own work): DH. Conditions: those told in each theorem. -/
import Derived.Test.YtkapgaajomaheaaGreatDoorDX
import Derived.Laws.StructEq
set_option linter.all false
set_option linter.unusedSimpArgs false
set_option linter.unusedVariables false
set_option maxRecDepth 4000
namespace Go.V
open Go Go.RowKit
theorem run_isAgg_str {P : Program} {t : TypeId} (h : P.underlying t = some .string) (w : World) : (isAgg t).run P w = .ok false w := by
  simp [isAgg, run_underlying h]
theorem binC_ne_ss {P : Program} {t : TypeId} {f0 f1 : Field} {a b c d : ByteArray} {xo yo : Operand} {K : Value → Prop} (ht : P.underlying t = some (.struct #[f0, f1])) (n0 : f0.name ≠ "_") (n1 : f1.name ≠ "_") (o0 : f0.offset = 0) (o1 : f1.offset = 1)
    (t0 : P.underlying f0.type = some .string) (t1 : P.underlying f1.type = some .string) (hp : P.stoodInHeld t = false) (hm : P.eqGuardType P.depth t = false)
    (hK : K (.bool (!(decide (a = c) && decide (b = d))))) : BinC P .neq t xo yo (.agg #[.string a, .string b]) (.agg #[.string c, .string d]) K := by
  have hf : P.fieldsOf t = #[f0, f1] := by unfold Program.fieldsOf; rw [ht]
  refine ⟨rfl, rfl, _, rfl, fun w => ?_, hK⟩
  rw [Sem.run_bind, run_eqGuard_agg w .neq t xo yo _ _ hm, Result.andThen_ok, run_neq_struct, run_equalIn_agg w 9999 t _ _ (by rw [hf]; exact ht) hp, hf]
  have e0 := beq_bytes a c
  have e1 := beq_bytes b d
  by_cases hac : a = c
  · by_cases hbd : b = d
    · simp [Op.eqFields, n0, n1, o0, o1, part, run_isAgg_str t0, run_isAgg_str t1, run_equalIn_string _ _ _ _ _ t0, run_equalIn_string _ _ _ _ _ t1, e0, e1, hac, hbd]
    · simp [Op.eqFields, n0, n1, o0, o1, part, run_isAgg_str t0, run_isAgg_str t1, run_equalIn_string _ _ _ _ _ t0, run_equalIn_string _ _ _ _ _ t1, e0, e1, hac, hbd]
  · simp [Op.eqFields, n0, n1, o0, o1, part, run_isAgg_str t0, run_isAgg_str t1, run_equalIn_string _ _ _ _ _ t0, run_equalIn_string _ _ _ _ _ t1, e0, e1, hac]
theorem binC_ne_si {P : Program} {t : TypeId} {f0 f1 : Field} {k1 : IntKind} {a c : ByteArray} {b d : Int} {xo yo : Operand} {K : Value → Prop} (ht : P.underlying t = some (.struct #[f0, f1])) (n0 : f0.name ≠ "_") (n1 : f1.name ≠ "_") (o0 : f0.offset = 0) (o1 : f1.offset = 1)
    (t0 : P.underlying f0.type = some .string) (t1 : P.underlying f1.type = some (.int k1)) (hp : P.stoodInHeld t = false) (hm : P.eqGuardType P.depth t = false)
    (hK : K (.bool (!(decide (a = c) && decide (b = d))))) : BinC P .neq t xo yo (.agg #[.string a, .int k1 b]) (.agg #[.string c, .int k1 d]) K := by
  have hf : P.fieldsOf t = #[f0, f1] := by unfold Program.fieldsOf; rw [ht]
  refine ⟨rfl, rfl, _, rfl, fun w => ?_, hK⟩
  rw [Sem.run_bind, run_eqGuard_agg w .neq t xo yo _ _ hm, Result.andThen_ok, run_neq_struct, run_equalIn_agg w 9999 t _ _ (by rw [hf]; exact ht) hp, hf]
  have e0 := beq_bytes a c
  have e1 : (b == d) = decide (b = d) := by rw [Bool.eq_iff_iff]; simp
  by_cases hac : a = c
  · by_cases hbd : b = d
    · simp [Op.eqFields, n0, n1, o0, o1, part, run_isAgg_str t0, run_isAgg_int t1, run_equalIn_string _ _ _ _ _ t0, run_equalIn_int _ _ _ _ _ _ _ t1, e0, e1, hac, hbd]
    · simp [Op.eqFields, n0, n1, o0, o1, part, run_isAgg_str t0, run_isAgg_int t1, run_equalIn_string _ _ _ _ _ t0, run_equalIn_int _ _ _ _ _ _ _ t1, e0, e1, hac, hbd]
  · simp [Op.eqFields, n0, n1, o0, o1, part, run_isAgg_str t0, run_isAgg_int t1, run_equalIn_string _ _ _ _ _ t0, run_equalIn_int _ _ _ _ _ _ _ t1, e0, e1, hac]
end Go.V
namespace Go.Proofs
open Go Go.V
theorem mk_ext {x y : Mk} : (decide (x.path = y.path) && decide (x.kind = y.kind)) = decide (x = y) := by
  obtain ⟨a, b⟩ := x
  obtain ⟨c, d⟩ := y
  rw [Bool.eq_iff_iff]; simp
theorem take_up {l m : List Mk} {i : Nat} {x : Mk} (h : l.take i = m.take i) (hx : l[i]? = some x) (hy : m[i]? = some x) : l.take (i + 1) = m.take (i + 1) := by
  rw [List.take_add_one, List.take_add_one, h, hx, hy]
theorem qMarks_c {l m : List Mk} {v w : Value} {h : Heap} {Q : Value → Heap → Prop} (r1 : Row h l v) (r2 : Row h m w) (hQ : ∀ h', Ext h h' → Q (.bool (decide (l = m))) h') : CallsV Tryz.prog 18 [v, w] h Q := by
  refine CallsV.start Tryz.func18 rfl (by rw [Tryz.results18]) (by kernel_rfl) (by rw [Tryz.ntmps18]; simp) ?_
  have hle := r1.le
  simp (disch := omega) only [VW, VY, VZ, VA, VB, VC, VE, TY, ↓reduceIte, Nat.reduceEqDiff, Nat.reduceAdd, Nat.reduceMul, Nat.reduceSub, Nat.reduceLeDiff, List.length_cons, List.length_nil, List.length_append, List.append_assoc, List.take_succ_cons, List.take_zero, List.drop_succ_cons, List.drop_zero, List.set_cons_zero, List.set_cons_succ, true_or, or_true, and_self, Bool.false_eq_true, Nat.le_refl, Option.bind_some, Option.map_some, Option.getD_some, Option.isSome_some, List.map_cons, List.map_nil, List.cons_append, List.nil_append, List.append_nil, List.getElem?_cons_zero, List.getElem?_cons_succ, eq_self, Int.reduceLT, Int.reduceLE, Int.reduceNeg, Int.reduceEq, r1.isRow.len, r2.isRow.len]
  by_cases hl : l.length = m.length
  · have c0 : (l.length : Int) = (m.length : Int) := by omega
    simp (disch := omega) only [VW, VY, VZ, VA, VB, VC, VE, TY, ↓reduceIte, Nat.reduceEqDiff, Nat.reduceAdd, Nat.reduceMul, Nat.reduceSub, Nat.reduceLeDiff, List.length_cons, List.length_nil, List.length_append, List.append_assoc, List.take_succ_cons, List.take_zero, List.drop_succ_cons, List.drop_zero, List.set_cons_zero, List.set_cons_succ, true_or, or_true, and_self, Bool.false_eq_true, Nat.le_refl, Option.bind_some, Option.map_some, Option.getD_some, Option.isSome_some, List.map_cons, List.map_nil, List.cons_append, List.nil_append, List.append_nil, List.getElem?_cons_zero, List.getElem?_cons_succ, eq_self, Int.reduceLT, Int.reduceLE, Int.reduceNeg, Int.reduceEq, c0, r1.isRow.len]
    refine loop_rule (fun n e h' => ∃ (i : Nat), e 0 = v ∧ e 1 = w ∧ e 12 = .int .i64 m.length ∧ e 13 = .int .i64 i ∧ i ≤ m.length ∧ n = m.length - i ∧ l.take i = m.take i ∧ h' = h) ?_ m.length _ _ ⟨0, rfl, rfl, rfl, rfl, Nat.zero_le _, rfl, rfl, rfl⟩
    rintro n e h' ⟨i, e0, e1, e12, e13, hi, rfl, ht, rfl⟩
    simp (disch := omega) only [VW, VY, VZ, VA, VB, VC, VE, TY, ↓reduceIte, Nat.reduceEqDiff, Nat.reduceAdd, Nat.reduceMul, Nat.reduceSub, Nat.reduceLeDiff, List.length_cons, List.length_nil, List.length_append, List.append_assoc, List.take_succ_cons, List.take_zero, List.drop_succ_cons, List.drop_zero, List.set_cons_zero, List.set_cons_succ, true_or, or_true, and_self, Bool.false_eq_true, Nat.le_refl, Option.bind_some, Option.map_some, Option.getD_some, Option.isSome_some, List.map_cons, List.map_nil, List.cons_append, List.nil_append, List.append_nil, List.getElem?_cons_zero, List.getElem?_cons_succ, eq_self, Int.reduceLT, Int.reduceLE, Int.reduceNeg, Int.reduceEq, e12, e13]
    by_cases hlt : i < m.length
    · obtain ⟨x, hx⟩ := get_some (show i < l.length by omega)
      obtain ⟨y, hy⟩ := get_some hlt
      have c1 : (i : Int) < (m.length : Int) := by omega
      obtain ⟨cs, x3, x4⟩ := Row.at r1 hx
      obtain ⟨ds, y3, y4⟩ := Row.at r2 hy
      obtain ⟨rfl, f1, f2⟩ := here_Mk x4
      obtain ⟨rfl, g1, g2⟩ := here_Mk y4
      rw [Mk.sz] at x3 y3
      have ix := r1.isRow.ix Tryz.prog
      rw [hl] at ix
      simp (disch := omega) only [VW, VY, VZ, VA, VB, VC, VE, TY, ↓reduceIte, Nat.reduceEqDiff, Nat.reduceAdd, Nat.reduceMul, Nat.reduceSub, Nat.reduceLeDiff, List.length_cons, List.length_nil, List.length_append, List.append_assoc, List.take_succ_cons, List.take_zero, List.drop_succ_cons, List.drop_zero, List.set_cons_zero, List.set_cons_succ, true_or, or_true, and_self, Bool.false_eq_true, Nat.le_refl, Option.bind_some, Option.map_some, Option.getD_some, Option.isSome_some, List.map_cons, List.map_nil, List.cons_append, List.nil_append, List.append_nil, List.getElem?_cons_zero, List.getElem?_cons_succ, eq_self, Int.reduceLT, Int.reduceLE, Int.reduceNeg, Int.reduceEq, c1]
      refine draw_ord [0, 1, 2, 3, 4, 5, 6, 7, 8] (by kernel_rfl) (by simp only [List.filterMap_cons, List.filterMap_nil, List.getElem?_cons_zero, List.getElem?_cons_succ]; rfl) ?_
      simp (disch := omega) only [VW, VY, VZ, VA, VB, VC, VE, TY, ↓reduceIte, Nat.reduceEqDiff, Nat.reduceAdd, Nat.reduceMul, Nat.reduceSub, Nat.reduceLeDiff, List.length_cons, List.length_nil, List.length_append, List.append_assoc, List.take_succ_cons, List.take_zero, List.drop_succ_cons, List.drop_zero, List.set_cons_zero, List.set_cons_succ, true_or, or_true, and_self, Bool.false_eq_true, Nat.le_refl, Option.bind_some, Option.map_some, Option.getD_some, Option.isSome_some, List.map_cons, List.map_nil, List.cons_append, List.nil_append, List.append_nil, List.getElem?_cons_zero, List.getElem?_cons_succ, eq_self, Int.reduceLT, Int.reduceLE, Int.reduceNeg, Int.reduceEq, e0, e1, e13, ix, r2.isRow.ix, x3, y3]
      refine binC_ne_si Tryz.underlying26 (by decide) (by decide) rfl rfl Tryz.underlying9 Tryz.underlying3 (by kernel_rfl) (by kernel_rfl) ?_
      rw [mk_ext]
      by_cases k : x = y
      · subst k
        rw [decide_eq_true rfl]
        simp (disch := omega) only [VW, VY, VZ, VA, VB, VC, VE, TY, ↓reduceIte, Nat.reduceEqDiff, Nat.reduceAdd, Nat.reduceMul, Nat.reduceSub, Nat.reduceLeDiff, List.length_cons, List.length_nil, List.length_append, List.append_assoc, List.take_succ_cons, List.take_zero, List.drop_succ_cons, List.drop_zero, List.set_cons_zero, List.set_cons_succ, true_or, or_true, and_self, Bool.false_eq_true, Nat.le_refl, Option.bind_some, Option.map_some, Option.getD_some, Option.isSome_some, List.map_cons, List.map_nil, List.cons_append, List.nil_append, List.append_nil, List.getElem?_cons_zero, List.getElem?_cons_succ, eq_self, Int.reduceLT, Int.reduceLE, Int.reduceNeg, Int.reduceEq, x3, y3, e0, e1, e12, e13, wrap_in]
        exact ⟨_, by omega, i + 1, by simp, by omega, rfl, take_up ht hx hy⟩
      · rw [decide_eq_false k]
        have hne : ¬ l = m := fun e => by
          rw [e, hy] at hx
          exact k (Option.some.inj hx).symm
        rw [decide_eq_false hne] at hQ
        simp (disch := omega) only [VW, VY, VZ, VA, VB, VC, VE, TY, ↓reduceIte, Nat.reduceEqDiff, Nat.reduceAdd, Nat.reduceMul, Nat.reduceSub, Nat.reduceLeDiff, List.length_cons, List.length_nil, List.length_append, List.append_assoc, List.take_succ_cons, List.take_zero, List.drop_succ_cons, List.drop_zero, List.set_cons_zero, List.set_cons_succ, true_or, or_true, and_self, Bool.false_eq_true, Nat.le_refl, Option.bind_some, Option.map_some, Option.getD_some, Option.isSome_some, List.map_cons, List.map_nil, List.cons_append, List.nil_append, List.append_nil, List.getElem?_cons_zero, List.getElem?_cons_succ, eq_self, Int.reduceLT, Int.reduceLE, Int.reduceNeg, Int.reduceEq, x3, y3]
        exact hQ _ (.refl _)
    · obtain rfl : i = m.length := by omega
      have c1 : ¬ (m.length : Int) < (m.length : Int) := by omega
      rw [List.take_of_length_le (by omega), List.take_of_length_le (Nat.le_refl _)] at ht
      rw [decide_eq_true ht] at hQ
      simp (disch := omega) only [VW, VY, VZ, VA, VB, VC, VE, TY, ↓reduceIte, Nat.reduceEqDiff, Nat.reduceAdd, Nat.reduceMul, Nat.reduceSub, Nat.reduceLeDiff, List.length_cons, List.length_nil, List.length_append, List.append_assoc, List.take_succ_cons, List.take_zero, List.drop_succ_cons, List.drop_zero, List.set_cons_zero, List.set_cons_succ, true_or, or_true, and_self, Bool.false_eq_true, Nat.le_refl, Option.bind_some, Option.map_some, Option.getD_some, Option.isSome_some, List.map_cons, List.map_nil, List.cons_append, List.nil_append, List.append_nil, List.getElem?_cons_zero, List.getElem?_cons_succ, eq_self, Int.reduceLT, Int.reduceLE, Int.reduceNeg, Int.reduceEq, c1]
      exact hQ _ (.refl _)
  · have c0 : ¬ (l.length : Int) = (m.length : Int) := by omega
    rw [decide_eq_false (fun e => hl (by rw [e]))] at hQ
    simp (disch := omega) only [VW, VY, VZ, VA, VB, VC, VE, TY, ↓reduceIte, Nat.reduceEqDiff, Nat.reduceAdd, Nat.reduceMul, Nat.reduceSub, Nat.reduceLeDiff, List.length_cons, List.length_nil, List.length_append, List.append_assoc, List.take_succ_cons, List.take_zero, List.drop_succ_cons, List.drop_zero, List.set_cons_zero, List.set_cons_succ, true_or, or_true, and_self, Bool.false_eq_true, Nat.le_refl, Option.bind_some, Option.map_some, Option.getD_some, Option.isSome_some, List.map_cons, List.map_nil, List.cons_append, List.nil_append, List.append_nil, List.getElem?_cons_zero, List.getElem?_cons_succ, eq_self, Int.reduceLT, Int.reduceLE, Int.reduceNeg, Int.reduceEq, c0]
    exact hQ _ (.refl _)
end Go.Proofs

/- Contracts of functions, facts of types, or the plain law behind one statement (own work): YL. Conditions: those told in each theorem. -/
import Derived.Test.YtiiolloielppeaaYK
set_option linter.all false
set_option linter.unusedSimpArgs false
set_option linter.unusedVariables false
set_option maxRecDepth 4000
namespace Go.Proofs
open Go Go.V
/- The program's volume of a box; sums that remember whether all went well. -/
theorem length_c {x : Bx} {b off i : Nat} {y z : Int} {h : Heap} {Q : Value → Heap → Prop} (hp : At h b off x) (hb : boxM x = true) (hy : x.low[i]? = some y) (hz : x.high[i]? = some z) (hQ : Q (.int .i64 (z - y)) h) :
    CallsV Try.prog 91 [.pointer (some ⟨b, off, none⟩), .int .i64 i] h Q := by
  obtain ⟨v1, v2, g0, g1, g2, f1, r1, r2, ga⟩ := at_Bx hp
  obtain ⟨hk, hl3, hlh, hsm⟩ := box_small' hb
  have hyz := zip_get hy hz
  have sm := hsm _ (List.mem_of_getElem? hyz)
  simp only [] at sm
  have w1 := wrap_in (z - y) (by omega)
  obtain ⟨y1, y2⟩ := row_int r1 hy
  obtain ⟨z1, z2⟩ := row_int r2 hz
  have hlt : i < x.low.length := by
    by_cases c : i < x.low.length
    · exact c
    · rw [List.getElem?_eq_none (by omega)] at hy; cases hy
  have q1 : (i : Int) < (x.low.length : Int) := by omega
  have q2 : (i : Int) < (x.high.length : Int) := by omega
  refine CallsV.start Try.func91 rfl (by rw [Try.results91]) (by kernel_rfl) (by rw [Try.ntmps91]; simp) ?_
  simp (disch := omega) only [VW, VY, VZ, VA, VB, VC, VE, TY, ↓reduceIte, Nat.reduceEqDiff, Nat.reduceAdd, Nat.reduceMul, Nat.reduceSub, Nat.reduceLeDiff, List.length_cons, List.length_nil, List.length_append, List.append_assoc, List.take_succ_cons, List.take_zero, List.drop_succ_cons, List.drop_zero, List.set_cons_zero, List.set_cons_succ, true_or, or_true, and_self, Bool.false_eq_true, Nat.le_refl, Option.bind_some, Option.map_some, Option.getD_some, Option.isSome_some, List.map_cons, List.map_nil, List.cons_append, List.nil_append, List.append_nil, List.getElem?_cons_zero, List.getElem?_cons_succ, eq_self, Int.reduceLT, Int.reduceLE, Int.reduceNeg, Int.reduceEq]
  refine draw_ord [0, 1, 2, 3, 4, 5, 6, 7, 8, 9, 10, 11, 12, 13, 14, 15] (by kernel_rfl) (by simp only [List.filterMap_cons, List.filterMap_nil, List.getElem?_cons_zero, List.getElem?_cons_succ]; rfl) ?_
  simp (disch := omega) only [VW, VY, VZ, VA, VB, VC, VE, TY, ↓reduceIte, Nat.reduceEqDiff, Nat.reduceAdd, Nat.reduceMul, Nat.reduceSub, Nat.reduceLeDiff, List.length_cons, List.length_nil, List.length_append, List.append_assoc, List.take_succ_cons, List.take_zero, List.drop_succ_cons, List.drop_zero, List.set_cons_zero, List.set_cons_succ, true_or, or_true, and_self, Bool.false_eq_true, Nat.le_refl, Option.bind_some, Option.map_some, Option.getD_some, Option.isSome_some, List.map_cons, List.map_nil, List.cons_append, List.nil_append, List.append_nil, List.getElem?_cons_zero, List.getElem?_cons_succ, eq_self, Int.reduceLT, Int.reduceLE, Int.reduceNeg, Int.reduceEq, g1, g2, r1.isRow.ix, r2.isRow.ix, q1, q2, y1, z1, w1]
  exact hQ
theorem volume_c {x : Bx} {b off : Nat} {h : Heap} {Q : Value → Heap → Prop} (hp : At h b off x) (hb : boxM x = true) (hQ : ∀ h', Ext h h' → Q (.tuple #[.agg (dyC (volM x)).toArray, .bool true]) h') :
    CallsV Try.prog 54 [.pointer (some ⟨b, off, none⟩)] h Q := by
  obtain ⟨v1, v2, g0, g1, g2, f1, r1, r2, ga⟩ := at_Bx hp
  obtain ⟨hk, hl3, hlh, hsm⟩ := box_small' hb
  refine CallsV.start Try.func54 rfl (by rw [Try.results54]) (by kernel_rfl) (by rw [Try.ntmps54]; simp) ?_
  have s := Sep.blk1 h [.int .i64 0, .int .i64 0] 39 true
  have g1' := s.ext.keepC g1
  have r1' := r1.mono s.ext
  simp (disch := omega) only [VW, VY, VZ, VA, VB, VC, VE, TY, ↓reduceIte, Nat.reduceEqDiff, Nat.reduceAdd, Nat.reduceMul, Nat.reduceSub, Nat.reduceLeDiff, List.length_cons, List.length_nil, List.length_append, List.append_assoc, List.take_succ_cons, List.take_zero, List.drop_succ_cons, List.drop_zero, List.set_cons_zero, List.set_cons_succ, true_or, or_true, and_self, Bool.false_eq_true, Nat.le_refl, Option.bind_some, Option.map_some, Option.getD_some, Option.isSome_some, List.map_cons, List.map_nil, List.cons_append, List.nil_append, List.append_nil, List.getElem?_cons_zero, List.getElem?_cons_succ, eq_self, Int.reduceLT, Int.reduceLE, Int.reduceNeg, Int.reduceEq, g1', r1'.isRow.len]
  have hzl : (x.low.zip x.high).length = x.low.length := by rw [List.length_zip]; omega
  refine loop_rule (fun n e h' => ∃ (i : Nat), e 0 = .pointer (some ⟨b, off, none⟩) ∧ e 2 = .pointer (some ⟨h.length, 0, none⟩) ∧ e 10 = .int .i64 x.low.length ∧ e 11 = .int .i64 i ∧
    e 4 = .int .i64 (prodM ((x.low.zip x.high).take i)) ∧ i ≤ x.low.length ∧ n = x.low.length - i ∧ Sep h h' [blkA h.length [.int .i64 0, .int .i64 0] 39]) ?_ x.low.length _ _
    ⟨0, rfl, rfl, rfl, rfl, rfl, Nat.zero_le _, rfl, s⟩
  rintro n e h' ⟨i, e0, e2, e10, e11, e4, hi, rfl, s⟩
  have hp1 := hp.ext s.ext
  have G0 := s.ext.keepC g0
  have G1 := s.ext.keepC g1
  have R1 := r1.mono s.ext
  simp (disch := omega) only [VW, VY, VZ, VA, VB, VC, VE, TY, ↓reduceIte, Nat.reduceEqDiff, Nat.reduceAdd, Nat.reduceMul, Nat.reduceSub, Nat.reduceLeDiff, List.length_cons, List.length_nil, List.length_append, List.append_assoc, List.take_succ_cons, List.take_zero, List.drop_succ_cons, List.drop_zero, List.set_cons_zero, List.set_cons_succ, true_or, or_true, and_self, Bool.false_eq_true, Nat.le_refl, Option.bind_some, Option.map_some, Option.getD_some, Option.isSome_some, List.map_cons, List.map_nil, List.cons_append, List.nil_append, List.append_nil, List.getElem?_cons_zero, List.getElem?_cons_succ, eq_self, Int.reduceLT, Int.reduceLE, Int.reduceNeg, Int.reduceEq, e10, e11]
  by_cases hlt : i < x.low.length
  · obtain ⟨y, hy⟩ := get_some hlt
    obtain ⟨z, hz⟩ := get_some (show i < x.high.length by omega)
    have hyz := zip_get hy hz
    have q1 : (i : Int) < (x.low.length : Int) := by omega
    have sm := hsm _ (List.mem_of_getElem? hyz)
    simp only [] at sm
    have pl := prodM_le hb (i + 1)
    rw [prodM_take hyz] at pl
    simp only [] at pl
    have w2 := wrap_in (prodM ((x.low.zip x.high).take i) * (z - y)) (by omega)
    simp (disch := omega) only [VW, VY, VZ, VA, VB, VC, VE, TY, ↓reduceIte, Nat.reduceEqDiff, Nat.reduceAdd, Nat.reduceMul, Nat.reduceSub, Nat.reduceLeDiff, List.length_cons, List.length_nil, List.length_append, List.append_assoc, List.take_succ_cons, List.take_zero, List.drop_succ_cons, List.drop_zero, List.set_cons_zero, List.set_cons_succ, true_or, or_true, and_self, Bool.false_eq_true, Nat.le_refl, Option.bind_some, Option.map_some, Option.getD_some, Option.isSome_some, List.map_cons, List.map_nil, List.cons_append, List.nil_append, List.append_nil, List.getElem?_cons_zero, List.getElem?_cons_succ, eq_self, Int.reduceLT, Int.reduceLE, Int.reduceNeg, Int.reduceEq, q1, e0, e11, e4]
    refine .inl ⟨by kernel_rfl, ?_⟩; refine length_c hp1 hb hy hz ?_
    simp (disch := omega) only [VW, VY, VZ, VA, VB, VC, VE, TY, ↓reduceIte, Nat.reduceEqDiff, Nat.reduceAdd, Nat.reduceMul, Nat.reduceSub, Nat.reduceLeDiff, List.length_cons, List.length_nil, List.length_append, List.append_assoc, List.take_succ_cons, List.take_zero, List.drop_succ_cons, List.drop_zero, List.set_cons_zero, List.set_cons_succ, true_or, or_true, and_self, Bool.false_eq_true, Nat.le_refl, Option.bind_some, Option.map_some, Option.getD_some, Option.isSome_some, List.map_cons, List.map_nil, List.cons_append, List.nil_append, List.append_nil, List.getElem?_cons_zero, List.getElem?_cons_succ, eq_self, Int.reduceLT, Int.reduceLE, Int.reduceNeg, Int.reduceEq, e0, e2, e10, e11, e4, w2, wrap_in]
    refine ⟨_, by omega, i + 1, by simp, ?_, by omega, rfl, s⟩
    rw [prodM_take hyz]
  · obtain rfl : i = x.low.length := by omega
    have q1 : ¬ (x.low.length : Int) < (x.low.length : Int) := by omega
    rw [← hzl, List.take_length] at e4
    have hv := volM_eq hb
    have hpl := prodM_le hb (x.low.zip x.high).length
    rw [List.take_length] at hpl
    have hvk : x.k * (x.low.length : Int) = ((volK x : Nat) : Int) := by
      unfold volK
      obtain ⟨q, hq⟩ : ∃ q : Nat, x.k = (q : Int) := ⟨x.k.toNat, by omega⟩
      rw [hq]
      simp
    have hkl := volK_le hb
    have w1 := wrap_in ((volK x : Nat) : Int) (by omega)
    simp (disch := omega) only [VW, VY, VZ, VA, VB, VC, VE, TY, ↓reduceIte, Nat.reduceEqDiff, Nat.reduceAdd, Nat.reduceMul, Nat.reduceSub, Nat.reduceLeDiff, List.length_cons, List.length_nil, List.length_append, List.append_assoc, List.take_succ_cons, List.take_zero, List.drop_succ_cons, List.drop_zero, List.set_cons_zero, List.set_cons_succ, true_or, or_true, and_self, Bool.false_eq_true, Nat.le_refl, Option.bind_some, Option.map_some, Option.getD_some, Option.isSome_some, List.map_cons, List.map_nil, List.cons_append, List.nil_append, List.append_nil, List.getElem?_cons_zero, List.getElem?_cons_succ, eq_self, Int.reduceLT, Int.reduceLE, Int.reduceNeg, Int.reduceEq, e4, q1]
    refine draw_ord [0, 2, 3, 4, 5, 6, 7, 8, 9, 10, 11, 1, 12, 13, 14, 15, 16] (by kernel_rfl) (by simp only [List.filterMap_cons, List.filterMap_nil, List.getElem?_cons_zero, List.getElem?_cons_succ]; rfl) ?_
    simp (disch := omega) only [VW, VY, VZ, VA, VB, VC, VE, TY, ↓reduceIte, Nat.reduceEqDiff, Nat.reduceAdd, Nat.reduceMul, Nat.reduceSub, Nat.reduceLeDiff, List.length_cons, List.length_nil, List.length_append, List.append_assoc, List.take_succ_cons, List.take_zero, List.drop_succ_cons, List.drop_zero, List.set_cons_zero, List.set_cons_succ, true_or, or_true, and_self, Bool.false_eq_true, Nat.le_refl, Option.bind_some, Option.map_some, Option.getD_some, Option.isSome_some, List.map_cons, List.map_nil, List.cons_append, List.nil_append, List.append_nil, List.getElem?_cons_zero, List.getElem?_cons_succ, eq_self, Int.reduceLT, Int.reduceLE, Int.reduceNeg, Int.reduceEq, e4, e0, e2, G0, G1, hvk, w1, R1.isRow.len]
    refine .inl ⟨by kernel_rfl, ?_⟩; refine wideOf_c (by omega) fun h1 E1 => ?_
    have s := s.mono E1
    have G0 := s.ext.keepC g0
    have G1 := s.ext.keepC g1
    have R1 := r1.mono s.ext
    simp (disch := omega) only [VW, VY, VZ, VA, VB, VC, VE, TY, ↓reduceIte, Nat.reduceEqDiff, Nat.reduceAdd, Nat.reduceMul, Nat.reduceSub, Nat.reduceLeDiff, List.length_cons, List.length_nil, List.length_append, List.append_assoc, List.take_succ_cons, List.take_zero, List.drop_succ_cons, List.drop_zero, List.set_cons_zero, List.set_cons_succ, true_or, or_true, and_self, Bool.false_eq_true, Nat.le_refl, Option.bind_some, Option.map_some, Option.getD_some, Option.isSome_some, List.map_cons, List.map_nil, List.cons_append, List.nil_append, List.append_nil, List.getElem?_cons_zero, List.getElem?_cons_succ, eq_self, Int.reduceLT, Int.reduceLE, Int.reduceNeg, Int.reduceEq, e0, e2, G0, G1, hvk, w1, R1.isRow.len]
    refine .inl ⟨by kernel_rfl, ?_⟩; refine fit_c (wideM_G (by omega)) (by omega) fun h2 E2 => ?_
    have s := s.mono E2
    have G0 := s.ext.keepC g0
    have G1 := s.ext.keepC g1
    have R1 := r1.mono s.ext
    rw [wideM_val, hv.1, optV_eq]
    simp (disch := omega) only [VW, VY, VZ, VA, VB, VC, VE, TY, ↓reduceIte, Nat.reduceEqDiff, Nat.reduceAdd, Nat.reduceMul, Nat.reduceSub, Nat.reduceLeDiff, List.length_cons, List.length_nil, List.length_append, List.append_assoc, List.take_succ_cons, List.take_zero, List.drop_succ_cons, List.drop_zero, List.set_cons_zero, List.set_cons_succ, true_or, or_true, and_self, Bool.false_eq_true, Nat.le_refl, Option.bind_some, Option.map_some, Option.getD_some, Option.isSome_some, List.map_cons, List.map_nil, List.cons_append, List.nil_append, List.append_nil, List.getElem?_cons_zero, List.getElem?_cons_succ, eq_self, Int.reduceLT, Int.reduceLE, Int.reduceNeg, Int.reduceEq, e0, e2, G0, G1, hvk, w1, R1.isRow.len]
    refine sep_store s (by simp) fun h5 s => ?_
    have s := s.as (ds := dyC (volM x)) (by simp [t_put])
    have G0 := s.ext.keepC g0
    have G1 := s.ext.keepC g1
    have R1 := r1.mono s.ext
    have gz := s.rdAll (n := 2) rfl
    simp (disch := omega) only [VW, VY, VZ, VA, VB, VC, VE, TY, ↓reduceIte, Nat.reduceEqDiff, Nat.reduceAdd, Nat.reduceMul, Nat.reduceSub, Nat.reduceLeDiff, List.length_cons, List.length_nil, List.length_append, List.append_assoc, List.take_succ_cons, List.take_zero, List.drop_succ_cons, List.drop_zero, List.set_cons_zero, List.set_cons_succ, true_or, or_true, and_self, Bool.false_eq_true, Nat.le_refl, Option.bind_some, Option.map_some, Option.getD_some, Option.isSome_some, List.map_cons, List.map_nil, List.cons_append, List.nil_append, List.append_nil, List.getElem?_cons_zero, List.getElem?_cons_succ, eq_self, Int.reduceLT, Int.reduceLE, Int.reduceNeg, Int.reduceEq, e0, e2, G0, G1, hvk, w1, R1.isRow.len, gz]
    exact hQ _ s.ext
end Go.Proofs

/- Contracts of functions, facts of types, or the plain law behind one statement (own work): JY. Conditions: those told in each theorem. -/
import Derived.Test.YtkapgaajomaheaaGreatDoorJX
import Derived.Test.YtkapgaajomaheaaGreatDoorJK
set_option linter.all false
set_option linter.unusedSimpArgs false
set_option linter.unusedVariables false
set_option maxRecDepth 4000
namespace Go.Proofs
open Go Go.V
theorem cntMk (l : List Mk) : cntL l = 2 * l.length := by
  unfold cntL
  induction l with
  | nil => rfl
  | cons x l ih =>
    have : Mrk.ecnt x = 2 := rfl
    simp only [List.map_cons, List.sum_cons, List.length_cons, ih, this]; omega
theorem marks_cnt (j : Jn) : cntL ((marksJ j).getD []) ≤ 1000000000 := by
  rw [cntMk]
  cases h : marksJ j with
  | none => simp
  | some l =>
    have := marksJ_len h
    simp only [Option.getD_some]; omega
/-- The kind of the last mark with a path, or 0. -/
def lastU (k : Int) (l : List Mk) (p : ByteArray) : Int := l.foldl (fun k m => if m.path = p then m.kind else k) k
def lastK (l : List Mk) (p : ByteArray) : Int := lastU 0 l p
theorem lastU_snoc (k : Int) (l : List Mk) (m : Mk) (p : ByteArray) : lastU k (l ++ [m]) p = if m.path = p then m.kind else lastU k l p := by
  unfold lastU; rw [List.foldl_append]; rfl
theorem lastU_take {k : Int} {l : List Mk} {i : Nat} {m : Mk} (p : ByteArray) (h : l[i]? = some m) : lastU k (l.take (i + 1)) p = if m.path = p then m.kind else lastU k (l.take i) p := by
  rw [List.take_add_one, h]; exact lastU_snoc _ _ _ _
theorem lastU_in {l : List Mk} {k : Int} (p : ByteArray) (hk : inI64 k) (h : ∀ m ∈ l, inI64 m.kind) : inI64 (lastU k l p) := by
  induction l generalizing k with
  | nil => exact hk
  | cons m l ih =>
    unfold lastU
    rw [List.foldl_cons]
    refine ih ?_ fun x hx => h x (by simp [hx])
    split
    · exact h m (by simp)
    · exact hk
theorem lastK_nn {l : List Mk} (p : ByteArray) (h : ∀ m ∈ l, markM m = true) : 0 ≤ lastK l p ∧ lastK l p ≤ 3 := by
  have : ∀ (l : List Mk) (k : Int), (0 ≤ k ∧ k ≤ 3) → (∀ m ∈ l, markM m = true) → 0 ≤ lastU k l p ∧ lastU k l p ≤ 3 := by
    intro l
    induction l with
    | nil => intro k hk _; exact hk
    | cons m l ih =>
      intro k hk h
      unfold lastU
      rw [List.foldl_cons]
      refine ih _ ?_ fun x hx => h x (by simp [hx])
      split
      · have := markM_kd (h m (by simp)); omega
      · exact hk
  exact this l 0 (by decide) h
theorem jrLast_c {l : List Mk} {v : Value} {p : ByteArray} {h : Heap} {Q : Value → Heap → Prop} (hl : Row h l v) (hQ : ∀ h', Ext h h' → Q (.int .i64 (lastK l p)) h') : CallsV Tryz.prog 33 [v, .string p] h Q := by
  refine CallsV.start Tryz.func33 rfl (by rw [Tryz.results33]) (by kernel_rfl) (by rw [Tryz.ntmps33]; simp) ?_
  have hle := hl.le
  simp (disch := omega) only [VW, VY, VZ, VA, VB, VC, VE, TY, ↓reduceIte, Nat.reduceEqDiff, Nat.reduceAdd, Nat.reduceMul, Nat.reduceSub, Nat.reduceLeDiff, List.length_cons, List.length_nil, List.length_append, List.append_assoc, List.take_succ_cons, List.take_zero, List.drop_succ_cons, List.drop_zero, List.set_cons_zero, List.set_cons_succ, true_or, or_true, and_self, Bool.false_eq_true, Nat.le_refl, Option.bind_some, Option.map_some, Option.getD_some, Option.isSome_some, List.map_cons, List.map_nil, List.cons_append, List.nil_append, List.append_nil, List.getElem?_cons_zero, List.getElem?_cons_succ, eq_self, Int.reduceLT, Int.reduceLE, Int.reduceNeg, Int.reduceEq, hl.isRow.len]
  refine loop_rule (fun n e h' => ∃ (i : Nat), e 1 = .string p ∧ e 8 = v ∧ e 9 = .int .i64 l.length ∧ e 10 = .int .i64 i ∧ e 5 = .int .i64 (lastU 0 (l.take i) p) ∧ i ≤ l.length ∧ n = l.length - i ∧ Ext h h') ?_ l.length _ _ ⟨0, rfl, rfl, rfl, rfl, rfl, Nat.zero_le _, rfl, .refl _⟩
  rintro n e h1 ⟨i, e1, e8, e9, e10, e5, hi, rfl, E⟩
  simp (disch := omega) only [VW, VY, VZ, VA, VB, VC, VE, TY, ↓reduceIte, Nat.reduceEqDiff, Nat.reduceAdd, Nat.reduceMul, Nat.reduceSub, Nat.reduceLeDiff, List.length_cons, List.length_nil, List.length_append, List.append_assoc, List.take_succ_cons, List.take_zero, List.drop_succ_cons, List.drop_zero, List.set_cons_zero, List.set_cons_succ, true_or, or_true, and_self, Bool.false_eq_true, Nat.le_refl, Option.bind_some, Option.map_some, Option.getD_some, Option.isSome_some, List.map_cons, List.map_nil, List.cons_append, List.nil_append, List.append_nil, List.getElem?_cons_zero, List.getElem?_cons_succ, eq_self, Int.reduceLT, Int.reduceLE, Int.reduceNeg, Int.reduceEq, e9, e10]
  by_cases hlt : i < l.length
  · obtain ⟨x, hx⟩ := get_some hlt
    have c1 : (i : Int) < (l.length : Int) := by omega
    have hu := lastU_take (k := 0) p hx
    obtain ⟨_, x3, x4⟩ := Row.at (hl.mono E) hx
    obtain ⟨rfl, _, _⟩ := here_Mk x4
    rw [Mk.sz] at x3
    have s := Sep.blk1 h1 [.string x.path, .int .i64 x.kind] 26 true
    have g := s.rd
    simp (disch := omega) only [VW, VY, VZ, VA, VB, VC, VE, TY, ↓reduceIte, Nat.reduceEqDiff, Nat.reduceAdd, Nat.reduceMul, Nat.reduceSub, Nat.reduceLeDiff, List.length_cons, List.length_nil, List.length_append, List.append_assoc, List.take_succ_cons, List.take_zero, List.drop_succ_cons, List.drop_zero, List.set_cons_zero, List.set_cons_succ, true_or, or_true, and_self, Bool.false_eq_true, Nat.le_refl, Option.bind_some, Option.map_some, Option.getD_some, Option.isSome_some, List.map_cons, List.map_nil, List.cons_append, List.nil_append, List.append_nil, List.getElem?_cons_zero, List.getElem?_cons_succ, eq_self, Int.reduceLT, Int.reduceLE, Int.reduceNeg, Int.reduceEq, c1, e1, e8, e10, hl.isRow.ix, x3, g]
    by_cases hp : x.path = p
    · rw [if_pos hp] at hu
      have hp' := decide_eq_true hp
      simp (disch := omega) only [VW, VY, VZ, VA, VB, VC, VE, TY, ↓reduceIte, Nat.reduceEqDiff, Nat.reduceAdd, Nat.reduceMul, Nat.reduceSub, Nat.reduceLeDiff, List.length_cons, List.length_nil, List.length_append, List.append_assoc, List.take_succ_cons, List.take_zero, List.drop_succ_cons, List.drop_zero, List.set_cons_zero, List.set_cons_succ, true_or, or_true, and_self, Bool.false_eq_true, Nat.le_refl, Option.bind_some, Option.map_some, Option.getD_some, Option.isSome_some, List.map_cons, List.map_nil, List.cons_append, List.nil_append, List.append_nil, List.getElem?_cons_zero, List.getElem?_cons_succ, eq_self, Int.reduceLT, Int.reduceLE, Int.reduceNeg, Int.reduceEq, hp', g, e1, e8, e9, e10, wrap_in]
      exact ⟨_, by omega, i + 1, by simp, by rw [hu], by omega, rfl, E.trans s.ext⟩
    · rw [if_neg hp] at hu
      simp (disch := omega) only [VW, VY, VZ, VA, VB, VC, VE, TY, ↓reduceIte, Nat.reduceEqDiff, Nat.reduceAdd, Nat.reduceMul, Nat.reduceSub, Nat.reduceLeDiff, List.length_cons, List.length_nil, List.length_append, List.append_assoc, List.take_succ_cons, List.take_zero, List.drop_succ_cons, List.drop_zero, List.set_cons_zero, List.set_cons_succ, true_or, or_true, and_self, Bool.false_eq_true, Nat.le_refl, Option.bind_some, Option.map_some, Option.getD_some, Option.isSome_some, List.map_cons, List.map_nil, List.cons_append, List.nil_append, List.append_nil, List.getElem?_cons_zero, List.getElem?_cons_succ, eq_self, Int.reduceLT, Int.reduceLE, Int.reduceNeg, Int.reduceEq, hp, g, e1, e8, e9, e10, wrap_in]
      exact ⟨_, by omega, i + 1, by simp, by rw [e5, hu], by omega, rfl, E.trans s.ext⟩
  · obtain rfl : i = l.length := by omega
    have c1 : ¬ (l.length : Int) < (l.length : Int) := by omega
    rw [List.take_length] at e5
    simp (disch := omega) only [VW, VY, VZ, VA, VB, VC, VE, TY, ↓reduceIte, Nat.reduceEqDiff, Nat.reduceAdd, Nat.reduceMul, Nat.reduceSub, Nat.reduceLeDiff, List.length_cons, List.length_nil, List.length_append, List.append_assoc, List.take_succ_cons, List.take_zero, List.drop_succ_cons, List.drop_zero, List.set_cons_zero, List.set_cons_succ, true_or, or_true, and_self, Bool.false_eq_true, Nat.le_refl, Option.bind_some, Option.map_some, Option.getD_some, Option.isSome_some, List.map_cons, List.map_nil, List.cons_append, List.nil_append, List.append_nil, List.getElem?_cons_zero, List.getElem?_cons_succ, eq_self, Int.reduceLT, Int.reduceLE, Int.reduceNeg, Int.reduceEq, c1, e5]
    exact hQ _ E
end Go.Proofs

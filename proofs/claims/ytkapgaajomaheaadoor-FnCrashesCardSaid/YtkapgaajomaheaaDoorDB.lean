/- Contracts of functions, facts of types, or the plain law behind one statement (own work): DB. Conditions: those told in each theorem. -/
import Derived.Test.YtkapgaajomaheaaDoorDA
set_option linter.all false
set_option linter.unusedSimpArgs false
set_option linter.unusedVariables false
set_option maxRecDepth 4000
namespace Go.Proofs
open Go Go.V
set_option linter.unusedSectionVars false
variable [Laid Tryd.prog]
/- Choices. -/
section
variable {a h : Heap} {b : Nat} {vc : Value} {B : Nat} {L : List Asr} {code : List UInt8} {Q : Value → Heap → Prop} (r : Row a code vc) (hl : code.length ≤ 1048576) (hB : B ≤ 1000000000) (c : Cur a h b vc B L)
theorem pick_c {n : Int} (r : Row a code vc) (hl : code.length ≤ 1048576) (hB : B ≤ 100000000000) (c : Cur a h b vc B L) (hn : n ≤ 1000000000)
    (hQ : ∀ x : Nat, (x = 0 ∨ (x : Int) < n) → ∀ h', Cur a h' b vc (B + 2) L → Q (.int .i64 (x : Nat)) h') : CallsV Tryd.prog 20 [.pointer (some ⟨b, 0, none⟩), .int .i64 n] h Q := by
  refine CallsV.start Tryd.func20 rfl (by rw [Tryd.results20]) (by kernel_rfl) (by rw [Tryd.ntmps20]; simp) ?_
  by_cases c1 : n ≤ 1
  · simp (disch := omega) only [VW, VY, VZ, VA, VB, VC, VE, TY, ↓reduceIte, Nat.reduceEqDiff, Nat.reduceAdd, Nat.reduceMul, Nat.reduceSub, Nat.reduceLeDiff, List.length_cons, List.length_nil, List.length_append, List.append_assoc, List.take_succ_cons, List.take_zero, List.drop_succ_cons, List.drop_zero, List.set_cons_zero, List.set_cons_succ, true_or, or_true, and_self, Bool.false_eq_true, Nat.le_refl, Option.bind_some, Option.map_some, Option.getD_some, Option.isSome_some, List.map_cons, List.map_nil, List.cons_append, List.nil_append, List.append_nil, List.getElem?_cons_zero, List.getElem?_cons_succ, eq_self, Int.reduceLT, Int.reduceLE, Int.reduceNeg, Int.reduceEq, c1]
    exact hQ 0 (.inl rfl) _ (c.up (by omega))
  · obtain ⟨m, hm⟩ : ∃ m : Nat, n = m := ⟨n.toNat, by omega⟩
    subst hm
    simp (disch := omega) only [VW, VY, VZ, VA, VB, VC, VE, TY, ↓reduceIte, Nat.reduceEqDiff, Nat.reduceAdd, Nat.reduceMul, Nat.reduceSub, Nat.reduceLeDiff, List.length_cons, List.length_nil, List.length_append, List.append_assoc, List.take_succ_cons, List.take_zero, List.drop_succ_cons, List.drop_zero, List.set_cons_zero, List.set_cons_succ, true_or, or_true, and_self, Bool.false_eq_true, Nat.le_refl, Option.bind_some, Option.map_some, Option.getD_some, Option.isSome_some, List.map_cons, List.map_nil, List.cons_append, List.nil_append, List.append_nil, List.getElem?_cons_zero, List.getElem?_cons_succ, eq_self, Int.reduceLT, Int.reduceLE, Int.reduceNeg, Int.reduceEq, c1]
    refine .inl ⟨by kernel_rfl, ?_⟩; refine next_c r hl (by omega) c fun x hx h1 c => ?_
    have z : ¬ (m : Int) = 0 := by omega
    by_cases c2 : (200 : Int) < (m : Int)
    · simp (disch := omega) only [VW, VY, VZ, VA, VB, VC, VE, TY, ↓reduceIte, Nat.reduceEqDiff, Nat.reduceAdd, Nat.reduceMul, Nat.reduceSub, Nat.reduceLeDiff, List.length_cons, List.length_nil, List.length_append, List.append_assoc, List.take_succ_cons, List.take_zero, List.drop_succ_cons, List.drop_zero, List.set_cons_zero, List.set_cons_succ, true_or, or_true, and_self, Bool.false_eq_true, Nat.le_refl, Option.bind_some, Option.map_some, Option.getD_some, Option.isSome_some, List.map_cons, List.map_nil, List.cons_append, List.nil_append, List.append_nil, List.getElem?_cons_zero, List.getElem?_cons_succ, eq_self, Int.reduceLT, Int.reduceLE, Int.reduceNeg, Int.reduceEq, c2, wrap_in]
      refine .inl ⟨by kernel_rfl, ?_⟩; refine next_c r hl (by omega) c fun y hy h2 c => ?_
      have e1 : (x : Int) * 256 + (y : Int) = ((x * 256 + y : Nat) : Int) := by omega
      have tm := tmod_nat (x * 256 + y) m
      have hlt : (x * 256 + y) % m < m := Nat.mod_lt _ (by omega)
      simp (disch := omega) only [VW, VY, VZ, VA, VB, VC, VE, TY, ↓reduceIte, Nat.reduceEqDiff, Nat.reduceAdd, Nat.reduceMul, Nat.reduceSub, Nat.reduceLeDiff, List.length_cons, List.length_nil, List.length_append, List.append_assoc, List.take_succ_cons, List.take_zero, List.drop_succ_cons, List.drop_zero, List.set_cons_zero, List.set_cons_succ, true_or, or_true, and_self, Bool.false_eq_true, Nat.le_refl, Option.bind_some, Option.map_some, Option.getD_some, Option.isSome_some, List.map_cons, List.map_nil, List.cons_append, List.nil_append, List.append_nil, List.getElem?_cons_zero, List.getElem?_cons_succ, eq_self, Int.reduceLT, Int.reduceLE, Int.reduceNeg, Int.reduceEq, wrap_in, e1, z, tm]
      exact hQ _ (.inr (by omega)) _ c
    · have tm := tmod_nat x m
      have hlt : x % m < m := Nat.mod_lt _ (by omega)
      simp (disch := omega) only [VW, VY, VZ, VA, VB, VC, VE, TY, ↓reduceIte, Nat.reduceEqDiff, Nat.reduceAdd, Nat.reduceMul, Nat.reduceSub, Nat.reduceLeDiff, List.length_cons, List.length_nil, List.length_append, List.append_assoc, List.take_succ_cons, List.take_zero, List.drop_succ_cons, List.drop_zero, List.set_cons_zero, List.set_cons_succ, true_or, or_true, and_self, Bool.false_eq_true, Nat.le_refl, Option.bind_some, Option.map_some, Option.getD_some, Option.isSome_some, List.map_cons, List.map_nil, List.cons_append, List.nil_append, List.append_nil, List.getElem?_cons_zero, List.getElem?_cons_succ, eq_self, Int.reduceLT, Int.reduceLE, Int.reduceNeg, Int.reduceEq, c2, z, tm, wrap_in]
      exact hQ _ (.inr (by omega)) _ (c.up (by omega))
theorem one_c {n : Int} (r : Row a code vc) (hl : code.length ≤ 1048576) (hB : B ≤ 100000000000) (c : Cur a h b vc B L) (hn : n ≤ 1000000000)
    (hQ : ∀ x : Bool, ∀ h', Cur a h' b vc (B + 2) L → Q (.bool x) h') : CallsV Tryd.prog 29 [.pointer (some ⟨b, 0, none⟩), .int .i64 n] h Q := by
  refine CallsV.start Tryd.func29 rfl (by rw [Tryd.results29]) (by kernel_rfl) (by rw [Tryd.ntmps29]; simp) ?_
  simp (disch := omega) only [VW, VY, VZ, VA, VB, VC, VE, TY, ↓reduceIte, Nat.reduceEqDiff, Nat.reduceAdd, Nat.reduceMul, Nat.reduceSub, Nat.reduceLeDiff, List.length_cons, List.length_nil, List.length_append, List.append_assoc, List.take_succ_cons, List.take_zero, List.drop_succ_cons, List.drop_zero, List.set_cons_zero, List.set_cons_succ, true_or, or_true, and_self, Bool.false_eq_true, Nat.le_refl, Option.bind_some, Option.map_some, Option.getD_some, Option.isSome_some, List.map_cons, List.map_nil, List.cons_append, List.nil_append, List.append_nil, List.getElem?_cons_zero, List.getElem?_cons_succ, eq_self, Int.reduceLT, Int.reduceLE, Int.reduceNeg, Int.reduceEq]
  refine .inl ⟨by kernel_rfl, ?_⟩; refine pick_c r hl hB c hn fun x hx h1 c => ?_
  simp (disch := omega) only [VW, VY, VZ, VA, VB, VC, VE, TY, ↓reduceIte, Nat.reduceEqDiff, Nat.reduceAdd, Nat.reduceMul, Nat.reduceSub, Nat.reduceLeDiff, List.length_cons, List.length_nil, List.length_append, List.append_assoc, List.take_succ_cons, List.take_zero, List.drop_succ_cons, List.drop_zero, List.set_cons_zero, List.set_cons_succ, true_or, or_true, and_self, Bool.false_eq_true, Nat.le_refl, Option.bind_some, Option.map_some, Option.getD_some, Option.isSome_some, List.map_cons, List.map_nil, List.cons_append, List.nil_append, List.append_nil, List.getElem?_cons_zero, List.getElem?_cons_succ, eq_self, Int.reduceLT, Int.reduceLE, Int.reduceNeg, Int.reduceEq]
  exact hQ _ _ c
theorem among_c {l : List Int} {v : Value} (r : Row a code vc) (hl : code.length ≤ 1048576) (hB : B ≤ 100000000000) (c : Cur a h b vc B (repA l [v] :: L)) (hne : 0 < l.length ∧ l.length ≤ 1000)
    (hQ : ∀ x ∈ l, inI64 x → ∀ h', Cur a h' b vc (B + 2) L → Q (.int .i64 x) h') : CallsV Tryd.prog 31 [.pointer (some ⟨b, 0, none⟩), v] h Q := by
  refine CallsV.start Tryd.func31 rfl (by rw [Tryd.results31]) (by kernel_rfl) (by rw [Tryd.ntmps31]; simp) ?_
  have rv := c.rest.rowR
  simp (disch := omega) only [VW, VY, VZ, VA, VB, VC, VE, TY, ↓reduceIte, Nat.reduceEqDiff, Nat.reduceAdd, Nat.reduceMul, Nat.reduceSub, Nat.reduceLeDiff, List.length_cons, List.length_nil, List.length_append, List.append_assoc, List.take_succ_cons, List.take_zero, List.drop_succ_cons, List.drop_zero, List.set_cons_zero, List.set_cons_succ, true_or, or_true, and_self, Bool.false_eq_true, Nat.le_refl, Option.bind_some, Option.map_some, Option.getD_some, Option.isSome_some, List.map_cons, List.map_nil, List.cons_append, List.nil_append, List.append_nil, List.getElem?_cons_zero, List.getElem?_cons_succ, eq_self, Int.reduceLT, Int.reduceLE, Int.reduceNeg, Int.reduceEq, rv.isRow.len]
  refine .inl ⟨by kernel_rfl, ?_⟩; refine pick_c r hl hB c (by omega) fun i hi h1 c => ?_
  have rv := c.rest.rowR
  obtain ⟨x, hx⟩ := get_some (show i < l.length by omega)
  obtain ⟨x3, x4⟩ := row_int rv hx
  simp (disch := omega) only [VW, VY, VZ, VA, VB, VC, VE, TY, ↓reduceIte, Nat.reduceEqDiff, Nat.reduceAdd, Nat.reduceMul, Nat.reduceSub, Nat.reduceLeDiff, List.length_cons, List.length_nil, List.length_append, List.append_assoc, List.take_succ_cons, List.take_zero, List.drop_succ_cons, List.drop_zero, List.set_cons_zero, List.set_cons_succ, true_or, or_true, and_self, Bool.false_eq_true, Nat.le_refl, Option.bind_some, Option.map_some, Option.getD_some, Option.isSome_some, List.map_cons, List.map_nil, List.cons_append, List.nil_append, List.append_nil, List.getElem?_cons_zero, List.getElem?_cons_succ, eq_self, Int.reduceLT, Int.reduceLE, Int.reduceNeg, Int.reduceEq, rv.isRow.ix, x3]
  obtain ⟨t, sd, h1, h2, s⟩ := c
  exact hQ x (List.mem_of_getElem? hx) x4 _ ⟨t, sd, h1, h2, s.swap.tail⟩
theorem of_c {l : List ByteArray} {v : Value} (r : Row a code vc) (hl : code.length ≤ 1048576) (hB : B ≤ 100000000000) (c : Cur a h b vc B (repA l [v] :: L)) (hne : 0 < l.length ∧ l.length ≤ 1000)
    (hQ : ∀ x ∈ l, ∀ h', Cur a h' b vc (B + 2) L → Q (.string x) h') : CallsV Tryd.prog 46 [.pointer (some ⟨b, 0, none⟩), v] h Q := by
  refine CallsV.start Tryd.func46 rfl (by rw [Tryd.results46]) (by kernel_rfl) (by rw [Tryd.ntmps46]; simp) ?_
  have rv := c.rest.rowR
  simp (disch := omega) only [VW, VY, VZ, VA, VB, VC, VE, TY, ↓reduceIte, Nat.reduceEqDiff, Nat.reduceAdd, Nat.reduceMul, Nat.reduceSub, Nat.reduceLeDiff, List.length_cons, List.length_nil, List.length_append, List.append_assoc, List.take_succ_cons, List.take_zero, List.drop_succ_cons, List.drop_zero, List.set_cons_zero, List.set_cons_succ, true_or, or_true, and_self, Bool.false_eq_true, Nat.le_refl, Option.bind_some, Option.map_some, Option.getD_some, Option.isSome_some, List.map_cons, List.map_nil, List.cons_append, List.nil_append, List.append_nil, List.getElem?_cons_zero, List.getElem?_cons_succ, eq_self, Int.reduceLT, Int.reduceLE, Int.reduceNeg, Int.reduceEq, rv.isRow.len]
  refine .inl ⟨by kernel_rfl, ?_⟩; refine pick_c r hl hB c (by omega) fun i hi h1 c => ?_
  have rv := c.rest.rowR
  obtain ⟨x, hx⟩ := get_some (show i < l.length by omega)
  obtain ⟨x3, x4⟩ := row_str rv hx
  simp (disch := omega) only [VW, VY, VZ, VA, VB, VC, VE, TY, ↓reduceIte, Nat.reduceEqDiff, Nat.reduceAdd, Nat.reduceMul, Nat.reduceSub, Nat.reduceLeDiff, List.length_cons, List.length_nil, List.length_append, List.append_assoc, List.take_succ_cons, List.take_zero, List.drop_succ_cons, List.drop_zero, List.set_cons_zero, List.set_cons_succ, true_or, or_true, and_self, Bool.false_eq_true, Nat.le_refl, Option.bind_some, Option.map_some, Option.getD_some, Option.isSome_some, List.map_cons, List.map_nil, List.cons_append, List.nil_append, List.append_nil, List.getElem?_cons_zero, List.getElem?_cons_succ, eq_self, Int.reduceLT, Int.reduceLE, Int.reduceNeg, Int.reduceEq, rv.isRow.ix, x3]
  obtain ⟨t, sd, h1, h2, s⟩ := c
  exact hQ x (List.mem_of_getElem? hx) _ ⟨t, sd, h1, h2, s.swap.tail⟩
def digs7 : ByteArray := ⟨#[48, 48, 49, 50, 51, 52, 55]⟩
theorem path_c (r : Row a code vc) (hl : code.length ≤ 1048576) (hB : B ≤ 10000000000) (c : Cur a h b vc B L)
    (hQ : ∀ p : ByteArray, p.size ≤ 8 → ∀ h', Cur a h' b vc (B + 10) L → Q (.string p) h') : CallsV Tryd.prog 45 [.pointer (some ⟨b, 0, none⟩)] h Q := by
  refine CallsV.start Tryd.func45 rfl (by rw [Tryd.results45]) (by kernel_rfl) (by rw [Tryd.ntmps45]; simp) ?_
  simp (disch := omega) only [VW, VY, VZ, VA, VB, VC, VE, TY, ↓reduceIte, Nat.reduceEqDiff, Nat.reduceAdd, Nat.reduceMul, Nat.reduceSub, Nat.reduceLeDiff, List.length_cons, List.length_nil, List.length_append, List.append_assoc, List.take_succ_cons, List.take_zero, List.drop_succ_cons, List.drop_zero, List.set_cons_zero, List.set_cons_succ, true_or, or_true, and_self, Bool.false_eq_true, Nat.le_refl, Option.bind_some, Option.map_some, Option.getD_some, Option.isSome_some, List.map_cons, List.map_nil, List.cons_append, List.nil_append, List.append_nil, List.getElem?_cons_zero, List.getElem?_cons_succ, eq_self, Int.reduceLT, Int.reduceLE, Int.reduceNeg, Int.reduceEq]
  refine .inl ⟨by kernel_rfl, ?_⟩; refine pick_c r hl (by omega) c (by decide) fun n hn h1 c => ?_
  have hn : n ≤ 3 := by omega
  simp (disch := omega) only [VW, VY, VZ, VA, VB, VC, VE, TY, ↓reduceIte, Nat.reduceEqDiff, Nat.reduceAdd, Nat.reduceMul, Nat.reduceSub, Nat.reduceLeDiff, List.length_cons, List.length_nil, List.length_append, List.append_assoc, List.take_succ_cons, List.take_zero, List.drop_succ_cons, List.drop_zero, List.set_cons_zero, List.set_cons_succ, true_or, or_true, and_self, Bool.false_eq_true, Nat.le_refl, Option.bind_some, Option.map_some, Option.getD_some, Option.isSome_some, List.map_cons, List.map_nil, List.cons_append, List.nil_append, List.append_nil, List.getElem?_cons_zero, List.getElem?_cons_succ, eq_self, Int.reduceLT, Int.reduceLE, Int.reduceNeg, Int.reduceEq]
  refine loop_rule (fun k e h' => ∃ (s : ByteArray), e 0 = .pointer (some ⟨b, 0, none⟩) ∧ e 3 = .string s ∧ e 4 = .int .i64 (k : Nat) ∧ k ≤ 3 ∧ s.size ≤ 3 - k ∧ Cur a h' b vc (B + 2 + 2 * (3 - k)) L) ?_ n _ _
    ⟨⟨#[]⟩, rfl, rfl, rfl, hn, Nat.zero_le _, c.up (by omega)⟩
  clear c
  rintro k e h2 ⟨s, e0, e3, e4, hk, hs, c⟩
  cases k with
  | zero =>
    have q : ¬ (0 : Int) < ((0 : Nat) : Int) := by decide
    have q' : ¬ (0 : Int) < 0 := by decide
    simp (disch := omega) only [VW, VY, VZ, VA, VB, VC, VE, TY, ↓reduceIte, Nat.reduceEqDiff, Nat.reduceAdd, Nat.reduceMul, Nat.reduceSub, Nat.reduceLeDiff, List.length_cons, List.length_nil, List.length_append, List.append_assoc, List.take_succ_cons, List.take_zero, List.drop_succ_cons, List.drop_zero, List.set_cons_zero, List.set_cons_succ, true_or, or_true, and_self, Bool.false_eq_true, Nat.le_refl, Option.bind_some, Option.map_some, Option.getD_some, Option.isSome_some, List.map_cons, List.map_nil, List.cons_append, List.nil_append, List.append_nil, List.getElem?_cons_zero, List.getElem?_cons_succ, eq_self, Int.reduceLT, Int.reduceLE, Int.reduceNeg, Int.reduceEq, e4, q, q', e0]
    refine .inl ⟨by kernel_rfl, ?_⟩; refine one_c r hl (by omega) c (by decide) fun x h3 c => ?_
    cases x with
    | false =>
      simp (disch := omega) only [VW, VY, VZ, VA, VB, VC, VE, TY, ↓reduceIte, Nat.reduceEqDiff, Nat.reduceAdd, Nat.reduceMul, Nat.reduceSub, Nat.reduceLeDiff, List.length_cons, List.length_nil, List.length_append, List.append_assoc, List.take_succ_cons, List.take_zero, List.drop_succ_cons, List.drop_zero, List.set_cons_zero, List.set_cons_succ, true_or, or_true, and_self, Bool.false_eq_true, Nat.le_refl, Option.bind_some, Option.map_some, Option.getD_some, Option.isSome_some, List.map_cons, List.map_nil, List.cons_append, List.nil_append, List.append_nil, List.getElem?_cons_zero, List.getElem?_cons_succ, eq_self, Int.reduceLT, Int.reduceLE, Int.reduceNeg, Int.reduceEq, e3]
      exact hQ s (by omega) _ (c.up (by omega))
    | true =>
      simp (disch := omega) only [VW, VY, VZ, VA, VB, VC, VE, TY, ↓reduceIte, Nat.reduceEqDiff, Nat.reduceAdd, Nat.reduceMul, Nat.reduceSub, Nat.reduceLeDiff, List.length_cons, List.length_nil, List.length_append, List.append_assoc, List.take_succ_cons, List.take_zero, List.drop_succ_cons, List.drop_zero, List.set_cons_zero, List.set_cons_succ, true_or, or_true, and_self, Bool.false_eq_true, Nat.le_refl, Option.bind_some, Option.map_some, Option.getD_some, Option.isSome_some, List.map_cons, List.map_nil, List.cons_append, List.nil_append, List.append_nil, List.getElem?_cons_zero, List.getElem?_cons_succ, eq_self, Int.reduceLT, Int.reduceLE, Int.reduceNeg, Int.reduceEq]
      refine loop_rule (fun k e h' => ∃ (s : ByteArray), e 3 = .string s ∧ s.size ≤ 8 ∧ k = 8 - s.size ∧ h' = h3) ?_ (8 - s.size) _ _ ⟨s, e3, by omega, rfl, rfl⟩
      rintro k e h4 ⟨s, e3, hs, rfl, rfl⟩
      by_cases c8 : s.size < 8
      · have q1 : (s.size : Int) < 8 := by omega
        have z1 : (⟨#[51]⟩ : ByteArray).size = 1 := rfl
        have a1 := str_add s ⟨#[51]⟩ (by omega)
        have a2 := size_append s ⟨#[51]⟩
        simp (disch := omega) only [VW, VY, VZ, VA, VB, VC, VE, TY, ↓reduceIte, Nat.reduceEqDiff, Nat.reduceAdd, Nat.reduceMul, Nat.reduceSub, Nat.reduceLeDiff, List.length_cons, List.length_nil, List.length_append, List.append_assoc, List.take_succ_cons, List.take_zero, List.drop_succ_cons, List.drop_zero, List.set_cons_zero, List.set_cons_succ, true_or, or_true, and_self, Bool.false_eq_true, Nat.le_refl, Option.bind_some, Option.map_some, Option.getD_some, Option.isSome_some, List.map_cons, List.map_nil, List.cons_append, List.nil_append, List.append_nil, List.getElem?_cons_zero, List.getElem?_cons_succ, eq_self, Int.reduceLT, Int.reduceLE, Int.reduceNeg, Int.reduceEq, e3, q1, a1]
        exact ⟨_, by omega, _, rfl, by omega, rfl⟩
      · have q1 : ¬ (s.size : Int) < 8 := by omega
        simp (disch := omega) only [VW, VY, VZ, VA, VB, VC, VE, TY, ↓reduceIte, Nat.reduceEqDiff, Nat.reduceAdd, Nat.reduceMul, Nat.reduceSub, Nat.reduceLeDiff, List.length_cons, List.length_nil, List.length_append, List.append_assoc, List.take_succ_cons, List.take_zero, List.drop_succ_cons, List.drop_zero, List.set_cons_zero, List.set_cons_succ, true_or, or_true, and_self, Bool.false_eq_true, Nat.le_refl, Option.bind_some, Option.map_some, Option.getD_some, Option.isSome_some, List.map_cons, List.map_nil, List.cons_append, List.nil_append, List.append_nil, List.getElem?_cons_zero, List.getElem?_cons_succ, eq_self, Int.reduceLT, Int.reduceLE, Int.reduceNeg, Int.reduceEq, e3, q1]
        exact hQ s hs _ (c.up (by omega))
  | succ k =>
    have q : (0 : Int) < ((k + 1 : Nat) : Int) := by omega
    have kk : ((k + 1 : Nat) : Int) - 1 = (k : Int) := by omega
    simp (disch := omega) only [VW, VY, VZ, VA, VB, VC, VE, TY, ↓reduceIte, Nat.reduceEqDiff, Nat.reduceAdd, Nat.reduceMul, Nat.reduceSub, Nat.reduceLeDiff, List.length_cons, List.length_nil, List.length_append, List.append_assoc, List.take_succ_cons, List.take_zero, List.drop_succ_cons, List.drop_zero, List.set_cons_zero, List.set_cons_succ, true_or, or_true, and_self, Bool.false_eq_true, Nat.le_refl, Option.bind_some, Option.map_some, Option.getD_some, Option.isSome_some, List.map_cons, List.map_nil, List.cons_append, List.nil_append, List.append_nil, List.getElem?_cons_zero, List.getElem?_cons_succ, eq_self, Int.reduceLT, Int.reduceLE, Int.reduceNeg, Int.reduceEq, e4, q, e0, e3]
    refine .inl ⟨by kernel_rfl, ?_⟩; refine pick_c r hl (by omega) c (by decide) fun i hi h3 c => ?_
    have z7 : digs7.size = 7 := rfl
    have d7 : (⟨#[48, 48, 49, 50, 51, 52, 55]⟩ : ByteArray) = digs7 := rfl
    have w1 : (digs7.extract i 7).size = 7 - i := by rw [ByteArray.size_extract, z7]; omega
    have w2 : ((digs7.extract i 7).extract 0 1).size = 1 := by rw [ByteArray.size_extract, w1]; omega
    have a1 := str_add s ((digs7.extract i 7).extract 0 1) (by omega)
    have a2 := size_append s ((digs7.extract i 7).extract 0 1)
    have k0 : (0 : Int) ≤ (i : Int) := by omega
    have k1 : (i : Int) ≤ ((7 : Nat) : Int) := by omega
    have k2 : (1 : Int) ≤ ((7 - i : Nat) : Int) := by omega
    have t1 : Int.toNat 1 = 1 := rfl
    simp (disch := omega) only [VW, VY, VZ, VA, VB, VC, VE, TY, ↓reduceIte, Nat.reduceEqDiff, Nat.reduceAdd, Nat.reduceMul, Nat.reduceSub, Nat.reduceLeDiff, List.length_cons, List.length_nil, List.length_append, List.append_assoc, List.take_succ_cons, List.take_zero, List.drop_succ_cons, List.drop_zero, List.set_cons_zero, List.set_cons_succ, true_or, or_true, and_self, Bool.false_eq_true, Nat.le_refl, Option.bind_some, Option.map_some, Option.getD_some, Option.isSome_some, List.map_cons, List.map_nil, List.cons_append, List.nil_append, List.append_nil, List.getElem?_cons_zero, List.getElem?_cons_succ, eq_self, Int.reduceLT, Int.reduceLE, Int.reduceNeg, Int.reduceEq, d7, z7, k0, k1, k2, w1, t1, a1, e0, e4, kk, wrap_in]
    exact ⟨k, by omega, _, rfl, rfl, by omega, by omega, c.up (by omega)⟩
end
end Go.Proofs

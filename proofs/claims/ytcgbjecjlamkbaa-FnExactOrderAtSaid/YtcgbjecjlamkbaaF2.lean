/- Contracts of functions, facts of types, or the plain law behind one statement (own work): F2. Conditions: those told in each theorem. -/
import Derived.Test.YtcgbjecjlamkbaaF1
import Derived.Test.YtcgbjecjlamkbaaC00
import Derived.Test.YtcgbjecjlamkbaaTI
set_option linter.all false
set_option linter.unusedSimpArgs false
set_option linter.unusedVariables false
set_option maxRecDepth 4000
namespace Go.Proofs
open Go Go.V
/- Long numbers: a sign and digits to the base 2^32. -/
instance : Rep UInt32 where
  sz := 1
  rep := fun _ n cs fp => cs = [.int .u32 n.toNat] ∧ fp = []
  len := fun h => by rw [h.1]; rfl
  frame := fun h _ => h
  live := fun h b hb => by rw [h.2] at hb; simp at hb
theorem rep_u32 {h : Heap} {x : UInt32} : Rep.rep h x [.int .u32 x.toNat] [] := ⟨rfl, rfl⟩
theorem row_u32 {h : Heap} {l : List UInt32} {v : Value} (hr : Row h l v) {i : Nat} {x : UInt32} (hx : l[i]? = some x) : getC h (rowB v) (rowO v + i) = some (.int .u32 x.toNat) := by
  obtain ⟨xs, hc, fp, h1, h2⟩ := hr.at hx
  subst h1
  have := cellsAt_getC hc 0 (by decide)
  have e : Rep.sz UInt32 = 1 := rfl
  rw [e, Nat.mul_one] at this
  exact this
theorem wrapu_nat (n : Nat) (h : n < 18446744073709551616) : IntKind.wrap .u64 (n : Int) = n := wrapu_in _ (by omega)
theorem wrapu_mod (n : Nat) : IntKind.wrap .u64 (n : Int) = ((n % 18446744073709551616 : Nat) : Int) := by
  simp [IntKind.wrap, IntKind.bits, IntKind.signed]
theorem wrap32_mod (n : Nat) : IntKind.wrap .u32 (n : Int) = ((n % 4294967296 : Nat) : Int) := by
  simp [IntKind.wrap, IntKind.bits, IntKind.signed]
theorem wrap32_int (n : Int) : IntKind.wrap .u32 n = n % 4294967296 := by
  simp [IntKind.wrap, IntKind.bits, IntKind.signed]
theorem ubits : IntKind.u64.bits = 64 := rfl
theorem ibits : IntKind.i64.bits = 64 := rfl
theorem shl_u (a k : Nat) (h : k ≤ 64) : IntKind.wrap .u64 ((a : Int) * 2 ^ min k 64) = ((a * 2 ^ k % 18446744073709551616 : Nat) : Int) := by
  have e : min k 64 = k := by omega
  rw [e]
  have : (a : Int) * 2 ^ k = ((a * 2 ^ k : Nat) : Int) := by simp
  rw [this, wrapu_mod]
theorem shr_u (a k : Nat) (h : k ≤ 64) : Int.fdiv (a : Int) (2 ^ min k 64) = ((a / 2 ^ k : Nat) : Int) := by
  have e : min k 64 = k := by omega
  rw [e]
  have : (2 : Int) ^ k = ((2 ^ k : Nat) : Int) := by simp
  rw [this, Int.fdiv_eq_ediv_of_nonneg _ (Int.natCast_nonneg _)]; rfl
theorem size_c {n : Int} {h : Heap} {Q : Value → Heap → Prop} (hn : -9000000000000000000 ≤ n ∧ n ≤ 9000000000000000000) (hQ : Q (.int .u64 (n.natAbs : Nat)) h) : CallsV Try.prog 45 [.int .i64 n] h Q := by
  refine CallsV.start Try.func45 rfl (by rw [Try.results45]) (by kernel_rfl) (by rw [Try.ntmps45]; simp) ?_
  simp (disch := omega) only [VW, VY, VZ, VA, VB, VC, VE, TY, ↓reduceIte, Nat.reduceEqDiff, Nat.reduceAdd, Nat.reduceMul, Nat.reduceSub, Nat.reduceLeDiff, List.length_cons, List.length_nil, List.length_append, List.append_assoc, List.take_succ_cons, List.take_zero, List.drop_succ_cons, List.drop_zero, List.set_cons_zero, List.set_cons_succ, true_or, or_true, and_self, Bool.false_eq_true, Nat.le_refl, Option.bind_some, Option.map_some, Option.getD_some, Option.isSome_some, List.map_cons, List.map_nil, List.cons_append, List.nil_append, List.append_nil, List.getElem?_cons_zero, List.getElem?_cons_succ, eq_self, Int.reduceLT, Int.reduceLE, Int.reduceNeg, Int.reduceEq]
  by_cases c : n < 0
  · have e : ((n.natAbs : Nat) : Int) = 0 - n := by omega
    have c' : ¬ n < 0 → False := fun h => h c
    simp (disch := omega) only [VW, VY, VZ, VA, VB, VC, VE, TY, ↓reduceIte, Nat.reduceEqDiff, Nat.reduceAdd, Nat.reduceMul, Nat.reduceSub, Nat.reduceLeDiff, List.length_cons, List.length_nil, List.length_append, List.append_assoc, List.take_succ_cons, List.take_zero, List.drop_succ_cons, List.drop_zero, List.set_cons_zero, List.set_cons_succ, true_or, or_true, and_self, Bool.false_eq_true, Nat.le_refl, Option.bind_some, Option.map_some, Option.getD_some, Option.isSome_some, List.map_cons, List.map_nil, List.cons_append, List.nil_append, List.append_nil, List.getElem?_cons_zero, List.getElem?_cons_succ, eq_self, Int.reduceLT, Int.reduceLE, Int.reduceNeg, Int.reduceEq, c, wrap_in, wrapu_in]
    rw [e] at hQ
    exact hQ
  · have e : ((n.natAbs : Nat) : Int) = n := by omega
    simp (disch := omega) only [VW, VY, VZ, VA, VB, VC, VE, TY, ↓reduceIte, Nat.reduceEqDiff, Nat.reduceAdd, Nat.reduceMul, Nat.reduceSub, Nat.reduceLeDiff, List.length_cons, List.length_nil, List.length_append, List.append_assoc, List.take_succ_cons, List.take_zero, List.drop_succ_cons, List.drop_zero, List.set_cons_zero, List.set_cons_succ, true_or, or_true, and_self, Bool.false_eq_true, Nat.le_refl, Option.bind_some, Option.map_some, Option.getD_some, Option.isSome_some, List.map_cons, List.map_nil, List.cons_append, List.nil_append, List.append_nil, List.getElem?_cons_zero, List.getElem?_cons_succ, eq_self, Int.reduceLT, Int.reduceLE, Int.reduceNeg, Int.reduceEq, c, wrapu_in]
    rw [e] at hQ
    exact hQ
def sgnN (a b : Nat) : Int := if a < b then -1 else if b < a then 1 else 0
theorem isNaN32_c {n : Nat} {h : Heap} {Q : Value → Heap → Prop} (hQ : Q (.bool false) h) : CallsV Try.prog 57 [.int .u32 n] h Q := by
  refine CallsV.start Try.func57 rfl (by rw [Try.results57]) (by kernel_rfl) (by rw [Try.ntmps57]; simp) ?_
  simp (disch := omega) only [VW, VY, VZ, VA, VB, VC, VE, TY, ↓reduceIte, Nat.reduceEqDiff, Nat.reduceAdd, Nat.reduceMul, Nat.reduceSub, Nat.reduceLeDiff, List.length_cons, List.length_nil, List.length_append, List.append_assoc, List.take_succ_cons, List.take_zero, List.drop_succ_cons, List.drop_zero, List.set_cons_zero, List.set_cons_succ, true_or, or_true, and_self, Bool.false_eq_true, Nat.le_refl, Option.bind_some, Option.map_some, Option.getD_some, Option.isSome_some, List.map_cons, List.map_nil, List.cons_append, List.nil_append, List.append_nil, List.getElem?_cons_zero, List.getElem?_cons_succ, eq_self, Int.reduceLT, Int.reduceLE, Int.reduceNeg, Int.reduceEq]
  exact hQ
theorem compare32_c {a b : Nat} {h : Heap} {Q : Value → Heap → Prop} (hQ : Q (.int .i64 (sgnN a b)) h) : CallsV Try.prog 54 [.int .u32 a, .int .u32 b] h Q := by
  refine CallsV.start Try.func54 rfl (by rw [Try.results54]) (by kernel_rfl) (by rw [Try.ntmps54]; simp) ?_
  simp (disch := omega) only [VW, VY, VZ, VA, VB, VC, VE, TY, ↓reduceIte, Nat.reduceEqDiff, Nat.reduceAdd, Nat.reduceMul, Nat.reduceSub, Nat.reduceLeDiff, List.length_cons, List.length_nil, List.length_append, List.append_assoc, List.take_succ_cons, List.take_zero, List.drop_succ_cons, List.drop_zero, List.set_cons_zero, List.set_cons_succ, true_or, or_true, and_self, Bool.false_eq_true, Nat.le_refl, Option.bind_some, Option.map_some, Option.getD_some, Option.isSome_some, List.map_cons, List.map_nil, List.cons_append, List.nil_append, List.append_nil, List.getElem?_cons_zero, List.getElem?_cons_succ, eq_self, Int.reduceLT, Int.reduceLE, Int.reduceNeg, Int.reduceEq]
  refine .inl ⟨by kernel_rfl, ?_⟩; refine isNaN32_c ?_
  simp (disch := omega) only [VW, VY, VZ, VA, VB, VC, VE, TY, ↓reduceIte, Nat.reduceEqDiff, Nat.reduceAdd, Nat.reduceMul, Nat.reduceSub, Nat.reduceLeDiff, List.length_cons, List.length_nil, List.length_append, List.append_assoc, List.take_succ_cons, List.take_zero, List.drop_succ_cons, List.drop_zero, List.set_cons_zero, List.set_cons_succ, true_or, or_true, and_self, Bool.false_eq_true, Nat.le_refl, Option.bind_some, Option.map_some, Option.getD_some, Option.isSome_some, List.map_cons, List.map_nil, List.cons_append, List.nil_append, List.append_nil, List.getElem?_cons_zero, List.getElem?_cons_succ, eq_self, Int.reduceLT, Int.reduceLE, Int.reduceNeg, Int.reduceEq]
  refine .inl ⟨by kernel_rfl, ?_⟩; refine isNaN32_c ?_
  unfold sgnN at hQ
  simp (disch := omega) only [VW, VY, VZ, VA, VB, VC, VE, TY, ↓reduceIte, Nat.reduceEqDiff, Nat.reduceAdd, Nat.reduceMul, Nat.reduceSub, Nat.reduceLeDiff, List.length_cons, List.length_nil, List.length_append, List.append_assoc, List.take_succ_cons, List.take_zero, List.drop_succ_cons, List.drop_zero, List.set_cons_zero, List.set_cons_succ, true_or, or_true, and_self, Bool.false_eq_true, Nat.le_refl, Option.bind_some, Option.map_some, Option.getD_some, Option.isSome_some, List.map_cons, List.map_nil, List.cons_append, List.nil_append, List.append_nil, List.getElem?_cons_zero, List.getElem?_cons_succ, eq_self, Int.reduceLT, Int.reduceLE, Int.reduceNeg, Int.reduceEq]
  by_cases c1 : a < b
  · have c1' : (a : Int) < (b : Int) := by omega
    rw [if_pos c1] at hQ
    simp (disch := omega) only [VW, VY, VZ, VA, VB, VC, VE, TY, ↓reduceIte, Nat.reduceEqDiff, Nat.reduceAdd, Nat.reduceMul, Nat.reduceSub, Nat.reduceLeDiff, List.length_cons, List.length_nil, List.length_append, List.append_assoc, List.take_succ_cons, List.take_zero, List.drop_succ_cons, List.drop_zero, List.set_cons_zero, List.set_cons_succ, true_or, or_true, and_self, Bool.false_eq_true, Nat.le_refl, Option.bind_some, Option.map_some, Option.getD_some, Option.isSome_some, List.map_cons, List.map_nil, List.cons_append, List.nil_append, List.append_nil, List.getElem?_cons_zero, List.getElem?_cons_succ, eq_self, Int.reduceLT, Int.reduceLE, Int.reduceNeg, Int.reduceEq, c1']
    exact hQ
  · have c1' : ¬ (a : Int) < (b : Int) := by omega
    rw [if_neg c1] at hQ
    simp (disch := omega) only [VW, VY, VZ, VA, VB, VC, VE, TY, ↓reduceIte, Nat.reduceEqDiff, Nat.reduceAdd, Nat.reduceMul, Nat.reduceSub, Nat.reduceLeDiff, List.length_cons, List.length_nil, List.length_append, List.append_assoc, List.take_succ_cons, List.take_zero, List.drop_succ_cons, List.drop_zero, List.set_cons_zero, List.set_cons_succ, true_or, or_true, and_self, Bool.false_eq_true, Nat.le_refl, Option.bind_some, Option.map_some, Option.getD_some, Option.isSome_some, List.map_cons, List.map_nil, List.cons_append, List.nil_append, List.append_nil, List.getElem?_cons_zero, List.getElem?_cons_succ, eq_self, Int.reduceLT, Int.reduceLE, Int.reduceNeg, Int.reduceEq, c1']
    by_cases c2 : b < a
    · have c2' : (b : Int) < (a : Int) := by omega
      rw [if_pos c2] at hQ
      simp (disch := omega) only [VW, VY, VZ, VA, VB, VC, VE, TY, ↓reduceIte, Nat.reduceEqDiff, Nat.reduceAdd, Nat.reduceMul, Nat.reduceSub, Nat.reduceLeDiff, List.length_cons, List.length_nil, List.length_append, List.append_assoc, List.take_succ_cons, List.take_zero, List.drop_succ_cons, List.drop_zero, List.set_cons_zero, List.set_cons_succ, true_or, or_true, and_self, Bool.false_eq_true, Nat.le_refl, Option.bind_some, Option.map_some, Option.getD_some, Option.isSome_some, List.map_cons, List.map_nil, List.cons_append, List.nil_append, List.append_nil, List.getElem?_cons_zero, List.getElem?_cons_succ, eq_self, Int.reduceLT, Int.reduceLE, Int.reduceNeg, Int.reduceEq, c2']
      exact hQ
    · have c2' : ¬ (b : Int) < (a : Int) := by omega
      rw [if_neg c2] at hQ
      simp (disch := omega) only [VW, VY, VZ, VA, VB, VC, VE, TY, ↓reduceIte, Nat.reduceEqDiff, Nat.reduceAdd, Nat.reduceMul, Nat.reduceSub, Nat.reduceLeDiff, List.length_cons, List.length_nil, List.length_append, List.append_assoc, List.take_succ_cons, List.take_zero, List.drop_succ_cons, List.drop_zero, List.set_cons_zero, List.set_cons_succ, true_or, or_true, and_self, Bool.false_eq_true, Nat.le_refl, Option.bind_some, Option.map_some, Option.getD_some, Option.isSome_some, List.map_cons, List.map_nil, List.cons_append, List.nil_append, List.append_nil, List.getElem?_cons_zero, List.getElem?_cons_succ, eq_self, Int.reduceLT, Int.reduceLE, Int.reduceNeg, Int.reduceEq, c2']
      exact hQ
theorem digit_c {b : Bool} {l : List UInt32} {v : Value} {i : Nat} {h : Heap} {Q : Value → Heap → Prop} (r : Row h l v) (hQ : ∀ h', Ext h h' → Q (.int .u32 (digD l i : Nat)) h') :
    CallsV Try.prog 47 [.agg #[.bool b, v], .int .i64 i] h Q := by
  refine CallsV.start Try.func47 rfl (by rw [Try.results47]) (by kernel_rfl) (by rw [Try.ntmps47]; simp) ?_
  have s := Sep.blk1 h [.bool b, v] 46 true
  have g := s.rd
  have r := r.mono s.ext
  simp (disch := omega) only [VW, VY, VZ, VA, VB, VC, VE, TY, ↓reduceIte, Nat.reduceEqDiff, Nat.reduceAdd, Nat.reduceMul, Nat.reduceSub, Nat.reduceLeDiff, List.length_cons, List.length_nil, List.length_append, List.append_assoc, List.take_succ_cons, List.take_zero, List.drop_succ_cons, List.drop_zero, List.set_cons_zero, List.set_cons_succ, true_or, or_true, and_self, Bool.false_eq_true, Nat.le_refl, Option.bind_some, Option.map_some, Option.getD_some, Option.isSome_some, List.map_cons, List.map_nil, List.cons_append, List.nil_append, List.append_nil, List.getElem?_cons_zero, List.getElem?_cons_succ, eq_self, Int.reduceLT, Int.reduceLE, Int.reduceNeg, Int.reduceEq, g, r.isRow.len]
  by_cases c : i < l.length
  · obtain ⟨x, hx⟩ := get_some c
    have x3 := row_u32 r hx
    have c1 : (i : Int) < (l.length : Int) := by omega
    rw [digD_some hx] at hQ
    simp (disch := omega) only [VW, VY, VZ, VA, VB, VC, VE, TY, ↓reduceIte, Nat.reduceEqDiff, Nat.reduceAdd, Nat.reduceMul, Nat.reduceSub, Nat.reduceLeDiff, List.length_cons, List.length_nil, List.length_append, List.append_assoc, List.take_succ_cons, List.take_zero, List.drop_succ_cons, List.drop_zero, List.set_cons_zero, List.set_cons_succ, true_or, or_true, and_self, Bool.false_eq_true, Nat.le_refl, Option.bind_some, Option.map_some, Option.getD_some, Option.isSome_some, List.map_cons, List.map_nil, List.cons_append, List.nil_append, List.append_nil, List.getElem?_cons_zero, List.getElem?_cons_succ, eq_self, Int.reduceLT, Int.reduceLE, Int.reduceNeg, Int.reduceEq, c1, g, r.isRow.ix, x3]
    exact hQ _ s.ext
  · have c1 : ¬ (i : Int) < (l.length : Int) := by omega
    rw [digD_none (by omega)] at hQ
    simp (disch := omega) only [VW, VY, VZ, VA, VB, VC, VE, TY, ↓reduceIte, Nat.reduceEqDiff, Nat.reduceAdd, Nat.reduceMul, Nat.reduceSub, Nat.reduceLeDiff, List.length_cons, List.length_nil, List.length_append, List.append_assoc, List.take_succ_cons, List.take_zero, List.drop_succ_cons, List.drop_zero, List.set_cons_zero, List.set_cons_succ, true_or, or_true, and_self, Bool.false_eq_true, Nat.le_refl, Option.bind_some, Option.map_some, Option.getD_some, Option.isSome_some, List.map_cons, List.map_nil, List.cons_append, List.nil_append, List.append_nil, List.getElem?_cons_zero, List.getElem?_cons_succ, eq_self, Int.reduceLT, Int.reduceLE, Int.reduceNeg, Int.reduceEq, c1]
    exact hQ _ s.ext
theorem sgn_same {a b q : Nat} (h : a / q = b / q) (ha : a % q = b % q) : a = b := by
  rw [← Nat.div_add_mod a q, ← Nat.div_add_mod b q, h, ha]
theorem sgn_div {a b q : Nat} (h : sgnN (a / q) (b / q) ≠ 0) : sgnN (a / q) (b / q) = sgnN a b := by
  unfold sgnN at h ⊢
  by_cases c : a / q < b / q
  · have : a < b := by
      rcases Nat.lt_or_ge a b with k | k
      · exact k
      · have := Nat.div_le_div_right (c := q) k; omega
    rw [if_pos c, if_pos this]
  · by_cases c2 : b / q < a / q
    · have : b < a := by
        rcases Nat.lt_or_ge b a with k | k
        · exact k
        · have := Nat.div_le_div_right (c := q) k; omega
      rw [if_neg c, if_pos c2, if_neg (by omega), if_pos this]
    · rw [if_neg c, if_neg c2] at h
      exact absurd rfl h
theorem sgn_up {A B x y : Nat} (h : A = B) : sgnN (A * 4294967296 + x) (B * 4294967296 + y) = sgnN x y := by
  subst h
  unfold sgnN
  by_cases c1 : x < y
  · rw [if_pos c1, if_pos (by omega)]
  · by_cases c2 : y < x
    · rw [if_neg c1, if_pos c2, if_neg (by omega), if_pos (by omega)]
    · rw [if_neg c1, if_neg c2, if_neg (by omega), if_neg (by omega)]
/-- The digits at one place tell how numbers compare that are the same above. -/
theorem cmp_step (l m : List UInt32) (i : Nat) (h : valD l / 4294967296 ^ (i + 1) = valD m / 4294967296 ^ (i + 1)) :
    sgnN (valD l / 4294967296 ^ i) (valD m / 4294967296 ^ i) = sgnN (digD l i) (digD m i) := by
  rw [div_up (valD l) i, div_up (valD m) i, sgn_up h, ← digD_eq, ← digD_eq]
theorem sgnN_zero {a b : Nat} (h : sgnN a b = 0) : a = b := by
  unfold sgnN at h
  split at h
  · cases h
  · split at h
    · cases h
    · omega
theorem sgnN_self (a : Nat) : sgnN a a = 0 := by
  unfold sgnN; rw [if_neg (by omega), if_neg (by omega)]
theorem compareDigits_c {b1 b2 : Bool} {l m : List UInt32} {v w : Value} {h : Heap} {Q : Value → Heap → Prop} (r1 : Row h l v) (r2 : Row h m w) (hl : l.length ≤ 1000000) (hm : m.length ≤ 1000000)
    (hQ : ∀ h', Ext h h' → Q (.int .i64 (sgnN (valD l) (valD m))) h') : CallsV Try.prog 46 [.agg #[.bool b1, v], .agg #[.bool b2, w]] h Q := by
  refine CallsV.start Try.func46 rfl (by rw [Try.results46]) (by kernel_rfl) (by rw [Try.ntmps46]; simp) ?_
  have s := Sep.blk2 h [.bool b1, v] [.bool b2, w] 46 46 true true
  have g1 := (s.pull 1 rfl).rd
  have g2 := (s.pull 0 rfl).rd
  simp (disch := omega) only [VW, VY, VZ, VA, VB, VC, VE, TY, ↓reduceIte, Nat.reduceEqDiff, Nat.reduceAdd, Nat.reduceMul, Nat.reduceSub, Nat.reduceLeDiff, List.length_cons, List.length_nil, List.length_append, List.append_assoc, List.take_succ_cons, List.take_zero, List.drop_succ_cons, List.drop_zero, List.set_cons_zero, List.set_cons_succ, true_or, or_true, and_self, Bool.false_eq_true, Nat.le_refl, Option.bind_some, Option.map_some, Option.getD_some, Option.isSome_some, List.map_cons, List.map_nil, List.cons_append, List.nil_append, List.append_nil, List.getElem?_cons_zero, List.getElem?_cons_succ, eq_self, Int.reduceLT, Int.reduceLE, Int.reduceNeg, Int.reduceEq, g1, g2, r1.isRow.len, r2.isRow.len]
  obtain ⟨N, hN, hN1, hN2⟩ : ∃ N : Nat, max (l.length : Int) (m.length : Int) = N ∧ l.length ≤ N ∧ m.length ≤ N := ⟨max l.length m.length, by omega, by omega, by omega⟩
  simp (disch := omega) only [VW, VY, VZ, VA, VB, VC, VE, TY, ↓reduceIte, Nat.reduceEqDiff, Nat.reduceAdd, Nat.reduceMul, Nat.reduceSub, Nat.reduceLeDiff, List.length_cons, List.length_nil, List.length_append, List.append_assoc, List.take_succ_cons, List.take_zero, List.drop_succ_cons, List.drop_zero, List.set_cons_zero, List.set_cons_succ, true_or, or_true, and_self, Bool.false_eq_true, Nat.le_refl, Option.bind_some, Option.map_some, Option.getD_some, Option.isSome_some, List.map_cons, List.map_nil, List.cons_append, List.nil_append, List.append_nil, List.getElem?_cons_zero, List.getElem?_cons_succ, eq_self, Int.reduceLT, Int.reduceLE, Int.reduceNeg, Int.reduceEq, hN, wrap_in]
  refine loop_rule (fun n e h' => e 2 = .pointer (some ⟨h.length, 0, none⟩) ∧ e 3 = .pointer (some ⟨h.length + 1, 0, none⟩) ∧ e 5 = .int .i64 ((n : Int) - 1) ∧ n ≤ N ∧ valD l / 4294967296 ^ n = valD m / 4294967296 ^ n ∧ Sep h h' [blkA (h.length + 1) [.bool b2, w] 46, blkA h.length [.bool b1, v] 46]) ?_ N _ _
    ⟨rfl, rfl, rfl, Nat.le_refl _, by rw [valD_top l hN1, valD_top m hN2], s⟩
  rintro n e h1 ⟨e2, e3, e5, hn, hd, s⟩
  cases n with
  | zero =>
    have hz : ¬ (0 : Int) ≤ -1 := by decide
    have e5 : e 5 = .int .i64 (-1) := e5
    rw [Nat.pow_zero, Nat.div_one, Nat.div_one] at hd
    rw [hd, sgnN_self] at hQ
    simp (disch := omega) only [VW, VY, VZ, VA, VB, VC, VE, TY, ↓reduceIte, Nat.reduceEqDiff, Nat.reduceAdd, Nat.reduceMul, Nat.reduceSub, Nat.reduceLeDiff, List.length_cons, List.length_nil, List.length_append, List.append_assoc, List.take_succ_cons, List.take_zero, List.drop_succ_cons, List.drop_zero, List.set_cons_zero, List.set_cons_succ, true_or, or_true, and_self, Bool.false_eq_true, Nat.le_refl, Option.bind_some, Option.map_some, Option.getD_some, Option.isSome_some, List.map_cons, List.map_nil, List.cons_append, List.nil_append, List.append_nil, List.getElem?_cons_zero, List.getElem?_cons_succ, eq_self, Int.reduceLT, Int.reduceLE, Int.reduceNeg, Int.reduceEq, e5, hz]
    exact hQ _ s.ext
  | succ k =>
    have e5 : e 5 = .int .i64 (k : Int) := by rw [e5]; congr 1; omega
    have k0 : (0 : Int) ≤ (k : Int) := by omega
    simp (disch := omega) only [VW, VY, VZ, VA, VB, VC, VE, TY, ↓reduceIte, Nat.reduceEqDiff, Nat.reduceAdd, Nat.reduceMul, Nat.reduceSub, Nat.reduceLeDiff, List.length_cons, List.length_nil, List.length_append, List.append_assoc, List.take_succ_cons, List.take_zero, List.drop_succ_cons, List.drop_zero, List.set_cons_zero, List.set_cons_succ, true_or, or_true, and_self, Bool.false_eq_true, Nat.le_refl, Option.bind_some, Option.map_some, Option.getD_some, Option.isSome_some, List.map_cons, List.map_nil, List.cons_append, List.nil_append, List.append_nil, List.getElem?_cons_zero, List.getElem?_cons_succ, eq_self, Int.reduceLT, Int.reduceLE, Int.reduceNeg, Int.reduceEq, e5, k0]
    refine draw_ord [0, 1, 3, 4, 2, 5, 6, 7] (by kernel_rfl) (by simp only [List.filterMap_cons, List.filterMap_nil, List.getElem?_cons_zero, List.getElem?_cons_succ]; rfl) ?_
    have ga := (s.pull 1 rfl).rdAll (n := 2) rfl
    have gb := (s.pull 0 rfl).rdAll (n := 2) rfl
    simp (disch := omega) only [VW, VY, VZ, VA, VB, VC, VE, TY, ↓reduceIte, Nat.reduceEqDiff, Nat.reduceAdd, Nat.reduceMul, Nat.reduceSub, Nat.reduceLeDiff, List.length_cons, List.length_nil, List.length_append, List.append_assoc, List.take_succ_cons, List.take_zero, List.drop_succ_cons, List.drop_zero, List.set_cons_zero, List.set_cons_succ, true_or, or_true, and_self, Bool.false_eq_true, Nat.le_refl, Option.bind_some, Option.map_some, Option.getD_some, Option.isSome_some, List.map_cons, List.map_nil, List.cons_append, List.nil_append, List.append_nil, List.getElem?_cons_zero, List.getElem?_cons_succ, eq_self, Int.reduceLT, Int.reduceLE, Int.reduceNeg, Int.reduceEq, ga, gb, e2, e3, e5]
    refine .inl ⟨by kernel_rfl, ?_⟩; refine digit_c (r1.mono s.ext) fun h2 E2 => ?_
    have s := s.mono E2
    have ga := (s.pull 1 rfl).rdAll (n := 2) rfl
    have gb := (s.pull 0 rfl).rdAll (n := 2) rfl
    simp (disch := omega) only [VW, VY, VZ, VA, VB, VC, VE, TY, ↓reduceIte, Nat.reduceEqDiff, Nat.reduceAdd, Nat.reduceMul, Nat.reduceSub, Nat.reduceLeDiff, List.length_cons, List.length_nil, List.length_append, List.append_assoc, List.take_succ_cons, List.take_zero, List.drop_succ_cons, List.drop_zero, List.set_cons_zero, List.set_cons_succ, true_or, or_true, and_self, Bool.false_eq_true, Nat.le_refl, Option.bind_some, Option.map_some, Option.getD_some, Option.isSome_some, List.map_cons, List.map_nil, List.cons_append, List.nil_append, List.append_nil, List.getElem?_cons_zero, List.getElem?_cons_succ, eq_self, Int.reduceLT, Int.reduceLE, Int.reduceNeg, Int.reduceEq, ga, gb, e2, e3, e5]
    refine .inl ⟨by kernel_rfl, ?_⟩; refine digit_c (r2.mono s.ext) fun h3 E3 => ?_
    have s := s.mono E3
    have ga := (s.pull 1 rfl).rdAll (n := 2) rfl
    have gb := (s.pull 0 rfl).rdAll (n := 2) rfl
    simp (disch := omega) only [VW, VY, VZ, VA, VB, VC, VE, TY, ↓reduceIte, Nat.reduceEqDiff, Nat.reduceAdd, Nat.reduceMul, Nat.reduceSub, Nat.reduceLeDiff, List.length_cons, List.length_nil, List.length_append, List.append_assoc, List.take_succ_cons, List.take_zero, List.drop_succ_cons, List.drop_zero, List.set_cons_zero, List.set_cons_succ, true_or, or_true, and_self, Bool.false_eq_true, Nat.le_refl, Option.bind_some, Option.map_some, Option.getD_some, Option.isSome_some, List.map_cons, List.map_nil, List.cons_append, List.nil_append, List.append_nil, List.getElem?_cons_zero, List.getElem?_cons_succ, eq_self, Int.reduceLT, Int.reduceLE, Int.reduceNeg, Int.reduceEq, ga, gb]
    refine .inl ⟨by kernel_rfl, ?_⟩; refine compare32_c ?_
    have hc := cmp_step l m k hd
    by_cases c : sgnN (digD l k) (digD m k) = 0
    · have c' := decide_eq_true c
      simp (disch := omega) only [VW, VY, VZ, VA, VB, VC, VE, TY, ↓reduceIte, Nat.reduceEqDiff, Nat.reduceAdd, Nat.reduceMul, Nat.reduceSub, Nat.reduceLeDiff, List.length_cons, List.length_nil, List.length_append, List.append_assoc, List.take_succ_cons, List.take_zero, List.drop_succ_cons, List.drop_zero, List.set_cons_zero, List.set_cons_succ, true_or, or_true, and_self, Bool.false_eq_true, Nat.le_refl, Option.bind_some, Option.map_some, Option.getD_some, Option.isSome_some, List.map_cons, List.map_nil, List.cons_append, List.nil_append, List.append_nil, List.getElem?_cons_zero, List.getElem?_cons_succ, eq_self, Int.reduceLT, Int.reduceLE, Int.reduceNeg, Int.reduceEq, ga, gb, c, e2, e3, e5, wrap_in]
      exact ⟨k, by omega, rfl, by omega, sgnN_zero (hc.trans c), s⟩
    · have c' := decide_eq_false c
      rw [← sgn_div (by rw [hc]; exact c), hc] at hQ
      simp (disch := omega) only [VW, VY, VZ, VA, VB, VC, VE, TY, ↓reduceIte, Nat.reduceEqDiff, Nat.reduceAdd, Nat.reduceMul, Nat.reduceSub, Nat.reduceLeDiff, List.length_cons, List.length_nil, List.length_append, List.append_assoc, List.take_succ_cons, List.take_zero, List.drop_succ_cons, List.drop_zero, List.set_cons_zero, List.set_cons_succ, true_or, or_true, and_self, Bool.false_eq_true, Nat.le_refl, Option.bind_some, Option.map_some, Option.getD_some, Option.isSome_some, List.map_cons, List.map_nil, List.cons_append, List.nil_append, List.append_nil, List.getElem?_cons_zero, List.getElem?_cons_succ, eq_self, Int.reduceLT, Int.reduceLE, Int.reduceNeg, Int.reduceEq, ga, gb, c, c']
      exact hQ _ s.ext
end Go.Proofs

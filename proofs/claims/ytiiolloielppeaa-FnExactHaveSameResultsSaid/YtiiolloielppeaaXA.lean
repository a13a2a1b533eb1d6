/- Contracts of functions, facts of types, or the plain law behind one statement (own work): XA. Conditions: those told in each theorem. -/
import Derived.Test.YtiiolloielppeaaB1
import Derived.Test.YtiiolloielppeaaN1
set_option linter.all false
set_option linter.unusedSimpArgs false
set_option linter.unusedVariables false
set_option maxRecDepth 4000
namespace Go.Proofs
open Go Go.V
/- Boxes brought to one power of two. -/
def upL (l : List Int) (k : Nat) : List Int := l.map (· * 2 ^ k)
theorem pow8 {k : Nat} (h : k ≤ 8) : (1 : Int) ≤ 2 ^ k ∧ (2 : Int) ^ k ≤ 256 := by
  have : k = 0 ∨ k = 1 ∨ k = 2 ∨ k = 3 ∨ k = 4 ∨ k = 5 ∨ k = 6 ∨ k = 7 ∨ k = 8 := by omega
  rcases this with rfl | rfl | rfl | rfl | rfl | rfl | rfl | rfl | rfl <;> decide
theorem up_small {x : Int} {k : Nat} (hx : -2048 ≤ x ∧ x ≤ 2048) (hk : k ≤ 8) : -524288 ≤ x * 2 ^ k ∧ x * 2 ^ k ≤ 524288 := by
  have hp := pow8 hk
  generalize (2 : Int) ^ k = p at *
  constructor
  · have h1 : (-2048) * p ≤ x * p := Int.mul_le_mul_of_nonneg_right hx.1 (by omega)
    omega
  · have h1 : x * p ≤ 2048 * p := Int.mul_le_mul_of_nonneg_right hx.2 (by omega)
    omega
theorem scaled_c {l : List Int} {v : Value} {k : Nat} {h : Heap} {Q : Value → Heap → Prop} (r : Row h l v) (hk : k ≤ 8) (hb : ∀ x ∈ l, -2048 ≤ x ∧ x ≤ 2048) (hl : l.length ≤ 3)
    (hQ : ∀ w h', Sep h h' [ownA 3 (upL l k) w] → Q w h') : CallsV Try.prog 112 [v, .int .i64 (k : Int)] h Q := by
  refine CallsV.start Try.func112 rfl (by rw [Try.results112]) (by kernel_rfl) (by rw [Try.ntmps112]; simp) ?_
  simp (disch := omega) only [VW, VY, VZ, VA, VB, VC, VE, TY, ↓reduceIte, Nat.reduceEqDiff, Nat.reduceAdd, Nat.reduceMul, Nat.reduceSub, Nat.reduceLeDiff, List.length_cons, List.length_nil, List.length_append, List.append_assoc, List.take_succ_cons, List.take_zero, List.drop_succ_cons, List.drop_zero, List.set_cons_zero, List.set_cons_succ, true_or, or_true, and_self, Bool.false_eq_true, Nat.le_refl, Option.bind_some, Option.map_some, Option.getD_some, Option.isSome_some, List.map_cons, List.map_nil, List.cons_append, List.nil_append, List.append_nil, List.getElem?_cons_zero, List.getElem?_cons_succ, eq_self, Int.reduceLT, Int.reduceLE, Int.reduceNeg, Int.reduceEq, r.isRow.len]
  refine loop_rule (fun n e h' => ∃ (i : Nat) (vo : Value), e 1 = .int .i64 (k : Int) ∧ e 5 = vo ∧ e 8 = v ∧ e 9 = .int .i64 (l.length : Int) ∧ e 10 = .int .i64 (i : Int) ∧ i ≤ l.length ∧ n = l.length - i ∧ Sep h h' [ownA 3 (upL (l.take i) k) vo]) ?_ l.length _ _
    ⟨0, .slice none 0 0, rfl, rfl, rfl, rfl, rfl, Nat.zero_le _, rfl, (Sep.nil (.refl h)).nilA _⟩
  rintro n e h' ⟨i, vo, e1, e5, e8, e9, e10, hi, rfl, s⟩
  have r1 := r.mono s.ext
  simp (disch := omega) only [VW, VY, VZ, VA, VB, VC, VE, TY, ↓reduceIte, Nat.reduceEqDiff, Nat.reduceAdd, Nat.reduceMul, Nat.reduceSub, Nat.reduceLeDiff, List.length_cons, List.length_nil, List.length_append, List.append_assoc, List.take_succ_cons, List.take_zero, List.drop_succ_cons, List.drop_zero, List.set_cons_zero, List.set_cons_succ, true_or, or_true, and_self, Bool.false_eq_true, Nat.le_refl, Option.bind_some, Option.map_some, Option.getD_some, Option.isSome_some, List.map_cons, List.map_nil, List.cons_append, List.nil_append, List.append_nil, List.getElem?_cons_zero, List.getElem?_cons_succ, eq_self, Int.reduceLT, Int.reduceLE, Int.reduceNeg, Int.reduceEq, e9, e10]
  by_cases hlt : i < l.length
  · obtain ⟨x, hx⟩ := get_some hlt
    have q1 : (i : Int) < (l.length : Int) := by omega
    obtain ⟨x1, x2⟩ := row_int r1 hx
    have hxb := hb x (List.mem_of_getElem? hx)
    have hu := up_small hxb hk
    have hbits : IntKind.i64.bits = 64 := rfl
    have k0 : ¬ (k : Int) < 0 := by omega
    have m1 : min k 64 = k := by omega
    have k1 : (k : Int).toNat = k := rfl
    simp (disch := omega) only [VW, VY, VZ, VA, VB, VC, VE, TY, ↓reduceIte, Nat.reduceEqDiff, Nat.reduceAdd, Nat.reduceMul, Nat.reduceSub, Nat.reduceLeDiff, List.length_cons, List.length_nil, List.length_append, List.append_assoc, List.take_succ_cons, List.take_zero, List.drop_succ_cons, List.drop_zero, List.set_cons_zero, List.set_cons_succ, true_or, or_true, and_self, Bool.false_eq_true, Nat.le_refl, Option.bind_some, Option.map_some, Option.getD_some, Option.isSome_some, List.map_cons, List.map_nil, List.cons_append, List.nil_append, List.append_nil, List.getElem?_cons_zero, List.getElem?_cons_succ, eq_self, Int.reduceLT, Int.reduceLE, Int.reduceNeg, Int.reduceEq, e1, e5, e8, e10, q1, r1.isRow.ix, x1, k0, hbits, k1, m1, wrap_in]
    have sq := (Sep.rep0 (x := x * 2 ^ k) s (rep_int ⟨by omega, by omega⟩)).swap
    have hln : (upL (l.take i) k).length = i := by unfold upL; rw [List.length_map, List.length_take]; omega
    refine sep_append (y := x * 2 ^ k) sq rfl rfl te34 tk3 rfl (by decide) (by rw [hln]; simp only []; omega) fun v5 h5 s => ?_
    simp (disch := omega) only [VW, VY, VZ, VA, VB, VC, VE, TY, ↓reduceIte, Nat.reduceEqDiff, Nat.reduceAdd, Nat.reduceMul, Nat.reduceSub, Nat.reduceLeDiff, List.length_cons, List.length_nil, List.length_append, List.append_assoc, List.take_succ_cons, List.take_zero, List.drop_succ_cons, List.drop_zero, List.set_cons_zero, List.set_cons_succ, true_or, or_true, and_self, Bool.false_eq_true, Nat.le_refl, Option.bind_some, Option.map_some, Option.getD_some, Option.isSome_some, List.map_cons, List.map_nil, List.cons_append, List.nil_append, List.append_nil, List.getElem?_cons_zero, List.getElem?_cons_succ, eq_self, Int.reduceLT, Int.reduceLE, Int.reduceNeg, Int.reduceEq, e1, e8, e9, e10, wrap_in]
    refine ⟨_, by omega, i + 1, v5, rfl, by simp, by omega, rfl, ?_⟩
    have : upL (l.take (i + 1)) k = upL (l.take i) k ++ [x * 2 ^ k] := by
      unfold upL; rw [List.take_add_one, hx, List.map_append]; rfl
    rw [this]
    exact s
  · obtain rfl : i = l.length := by omega
    have q1 : ¬ (l.length : Int) < (l.length : Int) := by omega
    rw [List.take_length] at s
    have pl := s.row.isRow.plain
    simp (disch := omega) only [VW, VY, VZ, VA, VB, VC, VE, TY, ↓reduceIte, Nat.reduceEqDiff, Nat.reduceAdd, Nat.reduceMul, Nat.reduceSub, Nat.reduceLeDiff, List.length_cons, List.length_nil, List.length_append, List.append_assoc, List.take_succ_cons, List.take_zero, List.drop_succ_cons, List.drop_zero, List.set_cons_zero, List.set_cons_succ, true_or, or_true, and_self, Bool.false_eq_true, Nat.le_refl, Option.bind_some, Option.map_some, Option.getD_some, Option.isSome_some, List.map_cons, List.map_nil, List.cons_append, List.nil_append, List.append_nil, List.getElem?_cons_zero, List.getElem?_cons_succ, eq_self, Int.reduceLT, Int.reduceLE, Int.reduceNeg, Int.reduceEq, q1, e5, pl]
    exact hQ _ _ s
end Go.Proofs

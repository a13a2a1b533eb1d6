/- Contracts of functions, facts of types, or the plain law behind one statement (own work): C1. Conditions: those told in each theorem. -/
import Derived.Test.YtcmkfkgcbllijaaTF
set_option linter.all false
set_option linter.unusedSimpArgs false
namespace Go.Proofs
open Go Go.V

theorem inside_c {n lo hi : Int} {h : Heap} {Q : Value → Heap → Prop} (hQ : Q (.bool (decide (lo ≤ n ∧ n ≤ hi))) h) :
    CallsV Try.prog 42 [.int .i64 n, .int .i64 lo, .int .i64 hi] h Q := by
  refine CallsV.start Try.func42 rfl (by rw [Try.results42]) (by kernel_rfl) (by rw [Try.ntmps42]; simp) ?_
  simp (disch := omega) only [VW, VY, VZ, TY, ↓reduceIte, Nat.reduceEqDiff, Nat.reduceAdd, Nat.reduceMul, Nat.reduceSub, Nat.reduceLeDiff, List.length_cons, List.length_nil, List.length_append, List.append_assoc, List.take_succ_cons, List.take_zero, List.drop_succ_cons, List.drop_zero, List.set_cons_zero, List.set_cons_succ, true_or, or_true, and_self, Bool.false_eq_true, Nat.le_refl, Option.bind_some, Option.map_some, Option.getD_some, Option.isSome_some, List.map_cons, List.map_nil, List.cons_append, List.nil_append, List.append_nil, List.getElem?_cons_zero, List.getElem?_cons_succ, eq_self, Int.reduceLT, Int.reduceLE, Int.reduceNeg, Int.reduceEq]
  by_cases h1 : lo ≤ n
  · simp (disch := omega) only [VW, VY, VZ, TY, ↓reduceIte, Nat.reduceEqDiff, Nat.reduceAdd, Nat.reduceMul, Nat.reduceSub, Nat.reduceLeDiff, List.length_cons, List.length_nil, List.length_append, List.append_assoc, List.take_succ_cons, List.take_zero, List.drop_succ_cons, List.drop_zero, List.set_cons_zero, List.set_cons_succ, true_or, or_true, and_self, Bool.false_eq_true, Nat.le_refl, Option.bind_some, Option.map_some, Option.getD_some, Option.isSome_some, List.map_cons, List.map_nil, List.cons_append, List.nil_append, List.append_nil, List.getElem?_cons_zero, List.getElem?_cons_succ, eq_self, Int.reduceLT, Int.reduceLE, Int.reduceNeg, Int.reduceEq, h1]
    simpa [h1] using hQ
  · simp (disch := omega) only [VW, VY, VZ, TY, ↓reduceIte, Nat.reduceEqDiff, Nat.reduceAdd, Nat.reduceMul, Nat.reduceSub, Nat.reduceLeDiff, List.length_cons, List.length_nil, List.length_append, List.append_assoc, List.take_succ_cons, List.take_zero, List.drop_succ_cons, List.drop_zero, List.set_cons_zero, List.set_cons_succ, true_or, or_true, and_self, Bool.false_eq_true, Nat.le_refl, Option.bind_some, Option.map_some, Option.getD_some, Option.isSome_some, List.map_cons, List.map_nil, List.cons_append, List.nil_append, List.append_nil, List.getElem?_cons_zero, List.getElem?_cons_succ, eq_self, Int.reduceLT, Int.reduceLE, Int.reduceNeg, Int.reduceEq, h1]
    simpa [h1] using hQ
theorem l1In_c {n lo hi : Int} {h : Heap} {Q : Value → Heap → Prop} (hQ : Q (.bool (decide (lo ≤ n ∧ n ≤ hi))) h) :
    CallsV Try.prog 63 [.int .i64 n, .int .i64 lo, .int .i64 hi] h Q := by
  refine CallsV.start Try.func63 rfl (by rw [Try.results63]) (by kernel_rfl) (by rw [Try.ntmps63]; simp) ?_
  simp (disch := omega) only [VW, VY, VZ, TY, ↓reduceIte, Nat.reduceEqDiff, Nat.reduceAdd, Nat.reduceMul, Nat.reduceSub, Nat.reduceLeDiff, List.length_cons, List.length_nil, List.length_append, List.append_assoc, List.take_succ_cons, List.take_zero, List.drop_succ_cons, List.drop_zero, List.set_cons_zero, List.set_cons_succ, true_or, or_true, and_self, Bool.false_eq_true, Nat.le_refl, Option.bind_some, Option.map_some, Option.getD_some, Option.isSome_some, List.map_cons, List.map_nil, List.cons_append, List.nil_append, List.append_nil, List.getElem?_cons_zero, List.getElem?_cons_succ, eq_self, Int.reduceLT, Int.reduceLE, Int.reduceNeg, Int.reduceEq]
  by_cases h1 : lo ≤ n
  · simp (disch := omega) only [VW, VY, VZ, TY, ↓reduceIte, Nat.reduceEqDiff, Nat.reduceAdd, Nat.reduceMul, Nat.reduceSub, Nat.reduceLeDiff, List.length_cons, List.length_nil, List.length_append, List.append_assoc, List.take_succ_cons, List.take_zero, List.drop_succ_cons, List.drop_zero, List.set_cons_zero, List.set_cons_succ, true_or, or_true, and_self, Bool.false_eq_true, Nat.le_refl, Option.bind_some, Option.map_some, Option.getD_some, Option.isSome_some, List.map_cons, List.map_nil, List.cons_append, List.nil_append, List.append_nil, List.getElem?_cons_zero, List.getElem?_cons_succ, eq_self, Int.reduceLT, Int.reduceLE, Int.reduceNeg, Int.reduceEq, h1]
    simpa [h1] using hQ
  · simp (disch := omega) only [VW, VY, VZ, TY, ↓reduceIte, Nat.reduceEqDiff, Nat.reduceAdd, Nat.reduceMul, Nat.reduceSub, Nat.reduceLeDiff, List.length_cons, List.length_nil, List.length_append, List.append_assoc, List.take_succ_cons, List.take_zero, List.drop_succ_cons, List.drop_zero, List.set_cons_zero, List.set_cons_succ, true_or, or_true, and_self, Bool.false_eq_true, Nat.le_refl, Option.bind_some, Option.map_some, Option.getD_some, Option.isSome_some, List.map_cons, List.map_nil, List.cons_append, List.nil_append, List.append_nil, List.getElem?_cons_zero, List.getElem?_cons_succ, eq_self, Int.reduceLT, Int.reduceLE, Int.reduceNeg, Int.reduceEq, h1]
    simpa [h1] using hQ

/-- A node of a tree. -/
structure Nd where
  kind : Int
  num : Int
  deriving DecidableEq, Inhabited
instance : Rep Nd := Rep.iso (α := Int × Int) fun x => (x.kind, x.num)
theorem Nd.sz : Rep.sz Nd = 2 := rfl
theorem here_Nd {h : Heap} {x : Nd} {cs : List Value} (hr : Here h x cs) : cs = [.int .i64 x.kind, .int .i64 x.num] ∧ inI64 x.kind ∧ inI64 x.num := by
  obtain ⟨fp, c1, c2, f1, f2, rfl, _, ⟨h1, _, g1⟩, ⟨h2, _, g2⟩⟩ := hr
  subst h1; subst h2
  exact ⟨rfl, g1, g2⟩
theorem row_Nd {h : Heap} {l : List Nd} {v : Value} (hr : Row h l v) {i : Nat} {x : Nd} (hx : l[i]? = some x) :
    getC h (rowB v) (rowO v + i * 2) = some (.int .i64 x.kind) ∧ getC h (rowB v) (rowO v + i * 2 + 1) = some (.int .i64 x.num) ∧ cellsAt h (rowB v) (rowO v + i * 2) 2 = some [.int .i64 x.kind, .int .i64 x.num] ∧ inI64 x.kind ∧ inI64 x.num := by
  obtain ⟨xs, hc, hh⟩ := hr.at hx
  rw [Nd.sz] at hc
  obtain ⟨rfl, g1, g2⟩ := here_Nd hh
  exact ⟨cellsAt_getC hc 0 (by omega), cellsAt_getC hc 1 (by omega), hc, g1, g2⟩

/-- What lies behind `open` trees. -/
def endM : List Nd → Nat → Option (List Nd)
  | l, 0 => some l
  | [], _ + 1 => none
  | x :: l, o + 1 => if x.kind = 0 then endM l (o + 2) else endM l o

theorem drop_cons {α : Type} {l : List α} {i : Nat} {x : α} (hx : l[i]? = some x) : l.drop i = x :: l.drop (i + 1) := by
  obtain ⟨h1, rfl⟩ := List.getElem?_eq_some_iff.1 hx
  exact List.drop_eq_getElem_cons h1
theorem get_some {α : Type} {l : List α} {i : Nat} (h : i < l.length) : ∃ x, l[i]? = some x := ⟨_, List.getElem?_eq_getElem h⟩

def endR (n : Nat) : Option (List Nd) → Int
  | some r => (n : Int) - r.length
  | none => -1

theorem treeEnd_c {l : List Nd} {p : Nat} {v : Value} {h : Heap} {Q : Value → Heap → Prop} (hl : Row h l v) (hp : p ≤ l.length) (hn : l.length ≤ 1000000)
    (hQ : Q (.int .i64 (endR l.length (endM (l.drop p) 1))) h) : CallsV Try.prog 65 [v, .int .i64 p] h Q := by
  refine CallsV.start Try.func65 rfl (by rw [Try.results65]) (by kernel_rfl) (by rw [Try.ntmps65]; simp) ?_
  simp (disch := omega) only [VW, VY, VZ, TY, ↓reduceIte, Nat.reduceEqDiff, Nat.reduceAdd, Nat.reduceMul, Nat.reduceSub, Nat.reduceLeDiff, List.length_cons, List.length_nil, List.length_append, List.append_assoc, List.take_succ_cons, List.take_zero, List.drop_succ_cons, List.drop_zero, List.set_cons_zero, List.set_cons_succ, true_or, or_true, and_self, Bool.false_eq_true, Nat.le_refl, Option.bind_some, Option.map_some, Option.getD_some, Option.isSome_some, List.map_cons, List.map_nil, List.cons_append, List.nil_append, List.append_nil, List.getElem?_cons_zero, List.getElem?_cons_succ, eq_self, Int.reduceLT, Int.reduceLE, Int.reduceNeg, Int.reduceEq]
  refine loop_rule (fun n e h' => ∃ (p : Nat) (o : Nat), h' = h ∧ e 0 = v ∧ e 1 = .int .i64 p ∧ e 5 = .int .i64 o ∧ p ≤ l.length ∧ o ≤ p + 1 ∧ n = l.length - p ∧
    Q (.int .i64 (endR l.length (endM (l.drop p) o))) h) ?_ (l.length - p) _ _ ⟨p, 1, rfl, rfl, rfl, rfl, hp, by omega, rfl, hQ⟩
  rintro n e h' ⟨p, o, rfl, e0, e1, e5, pn, o1, rfl, hQ⟩
  simp (disch := omega) only [VW, VY, VZ, TY, ↓reduceIte, Nat.reduceEqDiff, Nat.reduceAdd, Nat.reduceMul, Nat.reduceSub, Nat.reduceLeDiff, List.length_cons, List.length_nil, List.length_append, List.append_assoc, List.take_succ_cons, List.take_zero, List.drop_succ_cons, List.drop_zero, List.set_cons_zero, List.set_cons_succ, true_or, or_true, and_self, Bool.false_eq_true, Nat.le_refl, Option.bind_some, Option.map_some, Option.getD_some, Option.isSome_some, List.map_cons, List.map_nil, List.cons_append, List.nil_append, List.append_nil, List.getElem?_cons_zero, List.getElem?_cons_succ, eq_self, Int.reduceLT, Int.reduceLE, Int.reduceNeg, Int.reduceEq, e0, e1, e5, hl.isRow.len]
  by_cases c1 : (0 : Int) < (o : Int)
  · obtain ⟨o, rfl⟩ : ∃ o', o = o' + 1 := ⟨o - 1, by omega⟩
    simp (disch := omega) only [VW, VY, VZ, TY, ↓reduceIte, Nat.reduceEqDiff, Nat.reduceAdd, Nat.reduceMul, Nat.reduceSub, Nat.reduceLeDiff, List.length_cons, List.length_nil, List.length_append, List.append_assoc, List.take_succ_cons, List.take_zero, List.drop_succ_cons, List.drop_zero, List.set_cons_zero, List.set_cons_succ, true_or, or_true, and_self, Bool.false_eq_true, Nat.le_refl, Option.bind_some, Option.map_some, Option.getD_some, Option.isSome_some, List.map_cons, List.map_nil, List.cons_append, List.nil_append, List.append_nil, List.getElem?_cons_zero, List.getElem?_cons_succ, eq_self, Int.reduceLT, Int.reduceLE, Int.reduceNeg, Int.reduceEq, e0, e1, e5, c1, hl.isRow.len]
    by_cases c2 : p = l.length
    · subst c2
      simp (disch := omega) only [VW, VY, VZ, TY, ↓reduceIte, Nat.reduceEqDiff, Nat.reduceAdd, Nat.reduceMul, Nat.reduceSub, Nat.reduceLeDiff, List.length_cons, List.length_nil, List.length_append, List.append_assoc, List.take_succ_cons, List.take_zero, List.drop_succ_cons, List.drop_zero, List.set_cons_zero, List.set_cons_succ, true_or, or_true, and_self, Bool.false_eq_true, Nat.le_refl, Option.bind_some, Option.map_some, Option.getD_some, Option.isSome_some, List.map_cons, List.map_nil, List.cons_append, List.nil_append, List.append_nil, List.getElem?_cons_zero, List.getElem?_cons_succ, eq_self, Int.reduceLT, Int.reduceLE, Int.reduceNeg, Int.reduceEq, e0, e1, e5, hl.isRow.len]
      simpa [endM, endR] using hQ
    · obtain ⟨x, hx⟩ := get_some (show p < l.length by omega)
      obtain ⟨x1, x2, x3, x4, x5⟩ := row_Nd hl hx
      have c3 : ¬ (p : Int) = (l.length : Int) := by omega
      rw [drop_cons hx] at hQ
      simp only [endM] at hQ
      simp (disch := omega) only [VW, VY, VZ, TY, ↓reduceIte, Nat.reduceEqDiff, Nat.reduceAdd, Nat.reduceMul, Nat.reduceSub, Nat.reduceLeDiff, List.length_cons, List.length_nil, List.length_append, List.append_assoc, List.take_succ_cons, List.take_zero, List.drop_succ_cons, List.drop_zero, List.set_cons_zero, List.set_cons_succ, true_or, or_true, and_self, Bool.false_eq_true, Nat.le_refl, Option.bind_some, Option.map_some, Option.getD_some, Option.isSome_some, List.map_cons, List.map_nil, List.cons_append, List.nil_append, List.append_nil, List.getElem?_cons_zero, List.getElem?_cons_succ, eq_self, Int.reduceLT, Int.reduceLE, Int.reduceNeg, Int.reduceEq, e0, e1, e5, c3, hl.isRow.ix, x1]
      by_cases c4 : x.kind = 0
      · simp (disch := omega) only [VW, VY, VZ, TY, ↓reduceIte, Nat.reduceEqDiff, Nat.reduceAdd, Nat.reduceMul, Nat.reduceSub, Nat.reduceLeDiff, List.length_cons, List.length_nil, List.length_append, List.append_assoc, List.take_succ_cons, List.take_zero, List.drop_succ_cons, List.drop_zero, List.set_cons_zero, List.set_cons_succ, true_or, or_true, and_self, Bool.false_eq_true, Nat.le_refl, Option.bind_some, Option.map_some, Option.getD_some, Option.isSome_some, List.map_cons, List.map_nil, List.cons_append, List.nil_append, List.append_nil, List.getElem?_cons_zero, List.getElem?_cons_succ, eq_self, Int.reduceLT, Int.reduceLE, Int.reduceNeg, Int.reduceEq, e0, e1, e5, c4, wrap_in]
        rw [if_pos c4] at hQ
        exact ⟨_, by omega, p + 1, o + 2, by simp, by simp; omega, by omega, by omega, rfl, hQ⟩
      · simp (disch := omega) only [VW, VY, VZ, TY, ↓reduceIte, Nat.reduceEqDiff, Nat.reduceAdd, Nat.reduceMul, Nat.reduceSub, Nat.reduceLeDiff, List.length_cons, List.length_nil, List.length_append, List.append_assoc, List.take_succ_cons, List.take_zero, List.drop_succ_cons, List.drop_zero, List.set_cons_zero, List.set_cons_succ, true_or, or_true, and_self, Bool.false_eq_true, Nat.le_refl, Option.bind_some, Option.map_some, Option.getD_some, Option.isSome_some, List.map_cons, List.map_nil, List.cons_append, List.nil_append, List.append_nil, List.getElem?_cons_zero, List.getElem?_cons_succ, eq_self, Int.reduceLT, Int.reduceLE, Int.reduceNeg, Int.reduceEq, e0, e1, e5, c4, wrap_in]
        rw [if_neg c4] at hQ
        exact ⟨_, by omega, p + 1, o, by simp, by simp, by omega, by omega, rfl, hQ⟩
  · obtain rfl : o = 0 := by omega
    simp (disch := omega) only [VW, VY, VZ, TY, ↓reduceIte, Nat.reduceEqDiff, Nat.reduceAdd, Nat.reduceMul, Nat.reduceSub, Nat.reduceLeDiff, List.length_cons, List.length_nil, List.length_append, List.append_assoc, List.take_succ_cons, List.take_zero, List.drop_succ_cons, List.drop_zero, List.set_cons_zero, List.set_cons_succ, true_or, or_true, and_self, Bool.false_eq_true, Nat.le_refl, Option.bind_some, Option.map_some, Option.getD_some, Option.isSome_some, List.map_cons, List.map_nil, List.cons_append, List.nil_append, List.append_nil, List.getElem?_cons_zero, List.getElem?_cons_succ, eq_self, Int.reduceLT, Int.reduceLE, Int.reduceNeg, Int.reduceEq, e0, e1, e5, c1]
    have : endM (l.drop p) 0 = some (l.drop p) := by cases l.drop p <;> rfl
    rw [this] at hQ
    simp only [endR, List.length_drop] at hQ
    have e : (l.length : Int) - ((l.length - p : Nat) : Int) = p := by omega
    rw [e] at hQ
    exact hQ
end Go.Proofs

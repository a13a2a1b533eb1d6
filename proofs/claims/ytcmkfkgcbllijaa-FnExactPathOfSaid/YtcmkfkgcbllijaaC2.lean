/- Contracts of functions, facts of types, or the plain law behind one statement (own work): C2. Conditions: those told in each theorem. -/
import Derived.Test.YtcmkfkgcbllijaaC1
set_option linter.all false
set_option linter.unusedSimpArgs false
namespace Go.Proofs
open Go Go.V

theorem fillerNode_c {h : Heap} {Q : Value → Heap → Prop} (hQ : ∀ h', Ext h h' → Q (.agg #[.int .i64 (-7000000000000000101), .int .i64 (-7000000000000000101)]) h') :
    CallsV Try.prog 37 [] h Q := by
  refine CallsV.start Try.func37 rfl (by rw [Try.results37]) (by kernel_rfl) (by rw [Try.ntmps37]; simp) ?_
  simp (disch := omega) only [VW, VY, VZ, TY, ↓reduceIte, Nat.reduceEqDiff, Nat.reduceAdd, Nat.reduceMul, Nat.reduceSub, Nat.reduceLeDiff, List.length_cons, List.length_nil, List.length_append, List.append_assoc, List.take_succ_cons, List.take_zero, List.drop_succ_cons, List.drop_zero, List.set_cons_zero, List.set_cons_succ, true_or, or_true, and_self, Bool.false_eq_true, Nat.le_refl, Option.bind_some, Option.map_some, Option.getD_some, Option.isSome_some, List.map_cons, List.map_nil, List.cons_append, List.nil_append, List.append_nil, List.getElem?_cons_zero, List.getElem?_cons_succ, eq_self, Int.reduceLT, Int.reduceLE, Int.reduceNeg, Int.reduceEq]
  exact hQ _ (.app _ _)
theorem toNode_c {h : Heap} {x : Nd} {Q : Value → Heap → Prop} (hQ : ∀ h', Ext h h' → Q (.agg #[.int .i64 x.kind, .int .i64 x.num]) h') :
    CallsV Try.prog 36 [.agg #[.int .i64 x.kind, .int .i64 x.num]] h Q := by
  refine CallsV.start Try.func36 rfl (by rw [Try.results36]) (by kernel_rfl) (by rw [Try.ntmps36]; simp) ?_
  simp (disch := omega) only [VW, VY, VZ, TY, ↓reduceIte, Nat.reduceEqDiff, Nat.reduceAdd, Nat.reduceMul, Nat.reduceSub, Nat.reduceLeDiff, List.length_cons, List.length_nil, List.length_append, List.append_assoc, List.take_succ_cons, List.take_zero, List.drop_succ_cons, List.drop_zero, List.set_cons_zero, List.set_cons_succ, true_or, or_true, and_self, Bool.false_eq_true, Nat.le_refl, Option.bind_some, Option.map_some, Option.getD_some, Option.isSome_some, List.map_cons, List.map_nil, List.cons_append, List.nil_append, List.append_nil, List.getElem?_cons_zero, List.getElem?_cons_succ, eq_self, Int.reduceLT, Int.reduceLE, Int.reduceNeg, Int.reduceEq]
  exact hQ _ (.app _ _)
theorem eqNode_c {h : Heap} {x y : Nd} {Q : Value → Heap → Prop} (hQ : ∀ h', Ext h h' → Q (.bool (decide (x = y))) h') :
    CallsV Try.prog 67 [.agg #[.int .i64 x.kind, .int .i64 x.num], .agg #[.int .i64 y.kind, .int .i64 y.num]] h Q := by
  refine CallsV.start Try.func67 rfl (by rw [Try.results67]) (by kernel_rfl) (by rw [Try.ntmps67]; simp) ?_
  have he : (x = y) ↔ (x.kind = y.kind ∧ x.num = y.num) := by cases x; cases y; simp
  simp (disch := omega) only [VW, VY, VZ, TY, ↓reduceIte, Nat.reduceEqDiff, Nat.reduceAdd, Nat.reduceMul, Nat.reduceSub, Nat.reduceLeDiff, List.length_cons, List.length_nil, List.length_append, List.append_assoc, List.take_succ_cons, List.take_zero, List.drop_succ_cons, List.drop_zero, List.set_cons_zero, List.set_cons_succ, true_or, or_true, and_self, Bool.false_eq_true, Nat.le_refl, Option.bind_some, Option.map_some, Option.getD_some, Option.isSome_some, List.map_cons, List.map_nil, List.cons_append, List.nil_append, List.append_nil, List.getElem?_cons_zero, List.getElem?_cons_succ, eq_self, Int.reduceLT, Int.reduceLE, Int.reduceNeg, Int.reduceEq]
  by_cases h1 : x.kind = y.kind
  · simp (disch := omega) only [VW, VY, VZ, TY, ↓reduceIte, Nat.reduceEqDiff, Nat.reduceAdd, Nat.reduceMul, Nat.reduceSub, Nat.reduceLeDiff, List.length_cons, List.length_nil, List.length_append, List.append_assoc, List.take_succ_cons, List.take_zero, List.drop_succ_cons, List.drop_zero, List.set_cons_zero, List.set_cons_succ, true_or, or_true, and_self, Bool.false_eq_true, Nat.le_refl, Option.bind_some, Option.map_some, Option.getD_some, Option.isSome_some, List.map_cons, List.map_nil, List.cons_append, List.nil_append, List.append_nil, List.getElem?_cons_zero, List.getElem?_cons_succ, eq_self, Int.reduceLT, Int.reduceLE, Int.reduceNeg, Int.reduceEq, h1]
    by_cases h2 : x.num = y.num
    · simp (disch := omega) only [VW, VY, VZ, TY, ↓reduceIte, Nat.reduceEqDiff, Nat.reduceAdd, Nat.reduceMul, Nat.reduceSub, Nat.reduceLeDiff, List.length_cons, List.length_nil, List.length_append, List.append_assoc, List.take_succ_cons, List.take_zero, List.drop_succ_cons, List.drop_zero, List.set_cons_zero, List.set_cons_succ, true_or, or_true, and_self, Bool.false_eq_true, Nat.le_refl, Option.bind_some, Option.map_some, Option.getD_some, Option.isSome_some, List.map_cons, List.map_nil, List.cons_append, List.nil_append, List.append_nil, List.getElem?_cons_zero, List.getElem?_cons_succ, eq_self, Int.reduceLT, Int.reduceLE, Int.reduceNeg, Int.reduceEq, h2]
      simpa [he, h1, h2] using hQ _ (.app _ _)
    · simp (disch := omega) only [VW, VY, VZ, TY, ↓reduceIte, Nat.reduceEqDiff, Nat.reduceAdd, Nat.reduceMul, Nat.reduceSub, Nat.reduceLeDiff, List.length_cons, List.length_nil, List.length_append, List.append_assoc, List.take_succ_cons, List.take_zero, List.drop_succ_cons, List.drop_zero, List.set_cons_zero, List.set_cons_succ, true_or, or_true, and_self, Bool.false_eq_true, Nat.le_refl, Option.bind_some, Option.map_some, Option.getD_some, Option.isSome_some, List.map_cons, List.map_nil, List.cons_append, List.nil_append, List.append_nil, List.getElem?_cons_zero, List.getElem?_cons_succ, eq_self, Int.reduceLT, Int.reduceLE, Int.reduceNeg, Int.reduceEq, h2]
      simpa [he, h1, h2] using hQ _ (.app _ _)
  · simp (disch := omega) only [VW, VY, VZ, TY, ↓reduceIte, Nat.reduceEqDiff, Nat.reduceAdd, Nat.reduceMul, Nat.reduceSub, Nat.reduceLeDiff, List.length_cons, List.length_nil, List.length_append, List.append_assoc, List.take_succ_cons, List.take_zero, List.drop_succ_cons, List.drop_zero, List.set_cons_zero, List.set_cons_succ, true_or, or_true, and_self, Bool.false_eq_true, Nat.le_refl, Option.bind_some, Option.map_some, Option.getD_some, Option.isSome_some, List.map_cons, List.map_nil, List.cons_append, List.nil_append, List.append_nil, List.getElem?_cons_zero, List.getElem?_cons_succ, eq_self, Int.reduceLT, Int.reduceLE, Int.reduceNeg, Int.reduceEq, h1]
    simpa [he, h1] using hQ _ (.app _ _)

theorem roomBehind_c {n : Nat} {h : Heap} {Q : Value → Heap → Prop} (hn : n ≤ 1000000000) (hQ : Q (.int .i64 (roomM n)) h) : CallsV Try.prog 35 [.int .i64 n] h Q := by
  refine CallsV.start Try.func35 rfl (by rw [Try.results35]) (by kernel_rfl) (by rw [Try.ntmps35]; simp) ?_
  have e6 : Int.tmod (n : Int) 6 = ((n % 6 : Nat) : Int) := tmod_nat n 6
  have e3 : Int.tmod (n : Int) 3 = ((n % 3 : Nat) : Int) := tmod_nat n 3
  unfold roomM at hQ
  by_cases h1 : n % 6 = 5
  · have h2 : ((n % 6 : Nat) : Int) = 5 := by omega
    simp (disch := omega) only [VW, VY, VZ, TY, ↓reduceIte, Nat.reduceEqDiff, Nat.reduceAdd, Nat.reduceMul, Nat.reduceSub, Nat.reduceLeDiff, List.length_cons, List.length_nil, List.length_append, List.append_assoc, List.take_succ_cons, List.take_zero, List.drop_succ_cons, List.drop_zero, List.set_cons_zero, List.set_cons_succ, true_or, or_true, and_self, Bool.false_eq_true, Nat.le_refl, Option.bind_some, Option.map_some, Option.getD_some, Option.isSome_some, List.map_cons, List.map_nil, List.cons_append, List.nil_append, List.append_nil, List.getElem?_cons_zero, List.getElem?_cons_succ, eq_self, Int.reduceLT, Int.reduceLE, Int.reduceNeg, Int.reduceEq, e6, h2]
    simpa [h1] using hQ
  · have h2 : ¬ ((n % 6 : Nat) : Int) = 5 := by omega
    by_cases h3 : n % 3 = 0
    · have h4 : ((n % 3 : Nat) : Int) = 0 := by omega
      simp (disch := omega) only [VW, VY, VZ, TY, ↓reduceIte, Nat.reduceEqDiff, Nat.reduceAdd, Nat.reduceMul, Nat.reduceSub, Nat.reduceLeDiff, List.length_cons, List.length_nil, List.length_append, List.append_assoc, List.take_succ_cons, List.take_zero, List.drop_succ_cons, List.drop_zero, List.set_cons_zero, List.set_cons_succ, true_or, or_true, and_self, Bool.false_eq_true, Nat.le_refl, Option.bind_some, Option.map_some, Option.getD_some, Option.isSome_some, List.map_cons, List.map_nil, List.cons_append, List.nil_append, List.append_nil, List.getElem?_cons_zero, List.getElem?_cons_succ, eq_self, Int.reduceLT, Int.reduceLE, Int.reduceNeg, Int.reduceEq, e6, h2, e3, h4]
      simpa [h1, h3] using hQ
    · have h4 : ¬ ((n % 3 : Nat) : Int) = 0 := by omega
      simp (disch := omega) only [VW, VY, VZ, TY, ↓reduceIte, Nat.reduceEqDiff, Nat.reduceAdd, Nat.reduceMul, Nat.reduceSub, Nat.reduceLeDiff, List.length_cons, List.length_nil, List.length_append, List.append_assoc, List.take_succ_cons, List.take_zero, List.drop_succ_cons, List.drop_zero, List.set_cons_zero, List.set_cons_succ, true_or, or_true, and_self, Bool.false_eq_true, Nat.le_refl, Option.bind_some, Option.map_some, Option.getD_some, Option.isSome_some, List.map_cons, List.map_nil, List.cons_append, List.nil_append, List.append_nil, List.getElem?_cons_zero, List.getElem?_cons_succ, eq_self, Int.reduceLT, Int.reduceLE, Int.reduceNeg, Int.reduceEq, e6, h2, e3, h4]
      simpa [h1, h3] using hQ

theorem szNodeS_c {l : List Nd} {left : Int} {v : Value} {h : Heap} {Q : Value → Heap → Prop} (hl : Row h l v) (h0 : 0 ≤ left) (h1 : left ≤ 1000000) (hQ : Q (.int .i64 (if left < l.length then -1 else left - l.length)) h) :
    CallsV Try.prog 9 [v, .int .i64 left] h Q := by
  refine CallsV.start Try.func9 rfl (by rw [Try.results9]) (by kernel_rfl) (by rw [Try.ntmps9]; simp) ?_
  have hle := hl.le
  simp (disch := omega) only [VW, VY, VZ, TY, ↓reduceIte, Nat.reduceEqDiff, Nat.reduceAdd, Nat.reduceMul, Nat.reduceSub, Nat.reduceLeDiff, List.length_cons, List.length_nil, List.length_append, List.append_assoc, List.take_succ_cons, List.take_zero, List.drop_succ_cons, List.drop_zero, List.set_cons_zero, List.set_cons_succ, true_or, or_true, and_self, Bool.false_eq_true, Nat.le_refl, Option.bind_some, Option.map_some, Option.getD_some, Option.isSome_some, List.map_cons, List.map_nil, List.cons_append, List.nil_append, List.append_nil, List.getElem?_cons_zero, List.getElem?_cons_succ, eq_self, Int.reduceLT, Int.reduceLE, Int.reduceNeg, Int.reduceEq, hl.isRow.len, wrap_in]
  by_cases c : left < l.length
  · have c' : left - (l.length : Int) < 0 := by omega
    simp (disch := omega) only [VW, VY, VZ, TY, ↓reduceIte, Nat.reduceEqDiff, Nat.reduceAdd, Nat.reduceMul, Nat.reduceSub, Nat.reduceLeDiff, List.length_cons, List.length_nil, List.length_append, List.append_assoc, List.take_succ_cons, List.take_zero, List.drop_succ_cons, List.drop_zero, List.set_cons_zero, List.set_cons_succ, true_or, or_true, and_self, Bool.false_eq_true, Nat.le_refl, Option.bind_some, Option.map_some, Option.getD_some, Option.isSome_some, List.map_cons, List.map_nil, List.cons_append, List.nil_append, List.append_nil, List.getElem?_cons_zero, List.getElem?_cons_succ, eq_self, Int.reduceLT, Int.reduceLE, Int.reduceNeg, Int.reduceEq, c']
    simpa [c] using hQ
  · have c' : ¬ left - (l.length : Int) < 0 := by omega
    simp (disch := omega) only [VW, VY, VZ, TY, ↓reduceIte, Nat.reduceEqDiff, Nat.reduceAdd, Nat.reduceMul, Nat.reduceSub, Nat.reduceLeDiff, List.length_cons, List.length_nil, List.length_append, List.append_assoc, List.take_succ_cons, List.take_zero, List.drop_succ_cons, List.drop_zero, List.set_cons_zero, List.set_cons_succ, true_or, or_true, and_self, Bool.false_eq_true, Nat.le_refl, Option.bind_some, Option.map_some, Option.getD_some, Option.isSome_some, List.map_cons, List.map_nil, List.cons_append, List.nil_append, List.append_nil, List.getElem?_cons_zero, List.getElem?_cons_succ, eq_self, Int.reduceLT, Int.reduceLE, Int.reduceNeg, Int.reduceEq, c']
    simpa [c] using hQ

def fillNd : Nd := ⟨-7000000000000000101, -7000000000000000101⟩
theorem rep_Nd {h : Heap} {x : Nd} (h1 : inI64 x.kind) (h2 : inI64 x.num) : Rep.rep h x [.int .i64 x.kind, .int .i64 x.num] [] := ⟨[.int .i64 x.kind], [.int .i64 x.num], [], [], rfl, rfl, ⟨rfl, rfl, h1⟩, ⟨rfl, rfl, h2⟩⟩

theorem toNodeS_c {l : List Nd} {b : Bool} {a : Value} {h : Heap} {Q : Value → Heap → Prop} (hl : Row h l a) (hn : l.length ≤ 1000000)
    (hQ : ∀ v h', Ext h h' → Row h' l v → (b = false → Gave h.length 61 h' l fillNd v) → Q v h') : CallsV Try.prog 11 [a, .bool b] h Q := by
  refine CallsV.start Try.func11 rfl (by rw [Try.results11]) (by kernel_rfl) (by rw [Try.ntmps11]; simp) ?_
  by_cases hb : b = true ∧ l = []
  · obtain ⟨rfl, rfl⟩ := hb
    simp (disch := omega) only [VW, VY, VZ, TY, ↓reduceIte, Nat.reduceEqDiff, Nat.reduceAdd, Nat.reduceMul, Nat.reduceSub, Nat.reduceLeDiff, List.length_cons, List.length_nil, List.length_append, List.append_assoc, List.take_succ_cons, List.take_zero, List.drop_succ_cons, List.drop_zero, List.set_cons_zero, List.set_cons_succ, true_or, or_true, and_self, Bool.false_eq_true, Nat.le_refl, Option.bind_some, Option.map_some, Option.getD_some, Option.isSome_some, List.map_cons, List.map_nil, List.cons_append, List.nil_append, List.append_nil, List.getElem?_cons_zero, List.getElem?_cons_succ, eq_self, Int.reduceLT, Int.reduceLE, Int.reduceNeg, Int.reduceEq, hl.isRow.len]
    exact hQ _ _ (.refl _) ⟨[], .inl ⟨rfl, rfl⟩, by simp, .inl ⟨rfl, rfl⟩⟩ (by simp)
  · have hne : b = true → ¬ (l.length : Int) = 0 := fun hb1 => by have : l ≠ [] := fun e => hb ⟨hb1, e⟩; have := List.length_pos_iff.2 this; omega
    have hroom := roomM_le l.length
    cases b
    case' false => simp (disch := omega) only [VW, VY, VZ, TY, ↓reduceIte, Nat.reduceEqDiff, Nat.reduceAdd, Nat.reduceMul, Nat.reduceSub, Nat.reduceLeDiff, List.length_cons, List.length_nil, List.length_append, List.append_assoc, List.take_succ_cons, List.take_zero, List.drop_succ_cons, List.drop_zero, List.set_cons_zero, List.set_cons_succ, true_or, or_true, and_self, Bool.false_eq_true, Nat.le_refl, Option.bind_some, Option.map_some, Option.getD_some, Option.isSome_some, List.map_cons, List.map_nil, List.cons_append, List.nil_append, List.append_nil, List.getElem?_cons_zero, List.getElem?_cons_succ, eq_self, Int.reduceLT, Int.reduceLE, Int.reduceNeg, Int.reduceEq, hl.isRow.len]
    case' true => simp (disch := omega) only [VW, VY, VZ, TY, ↓reduceIte, Nat.reduceEqDiff, Nat.reduceAdd, Nat.reduceMul, Nat.reduceSub, Nat.reduceLeDiff, List.length_cons, List.length_nil, List.length_append, List.append_assoc, List.take_succ_cons, List.take_zero, List.drop_succ_cons, List.drop_zero, List.set_cons_zero, List.set_cons_succ, true_or, or_true, and_self, Bool.false_eq_true, Nat.le_refl, Option.bind_some, Option.map_some, Option.getD_some, Option.isSome_some, List.map_cons, List.map_nil, List.cons_append, List.nil_append, List.append_nil, List.getElem?_cons_zero, List.getElem?_cons_succ, eq_self, Int.reduceLT, Int.reduceLE, Int.reduceNeg, Int.reduceEq, hl.isRow.len, hne rfl]
    all_goals
      refine .inl ⟨by kernel_rfl, roomBehind_c (by omega) ?_⟩
      simp (disch := omega) only [VW, VY, VZ, TY, ↓reduceIte, Nat.reduceEqDiff, Nat.reduceAdd, Nat.reduceMul, Nat.reduceSub, Nat.reduceLeDiff, List.length_cons, List.length_nil, List.length_append, List.append_assoc, List.take_succ_cons, List.take_zero, List.drop_succ_cons, List.drop_zero, List.set_cons_zero, List.set_cons_succ, true_or, or_true, and_self, Bool.false_eq_true, Nat.le_refl, Option.bind_some, Option.map_some, Option.getD_some, Option.isSome_some, List.map_cons, List.map_nil, List.cons_append, List.nil_append, List.append_nil, List.getElem?_cons_zero, List.getElem?_cons_succ, eq_self, Int.reduceLT, Int.reduceLE, Int.reduceNeg, Int.reduceEq, wrap_in]
      rw [← Int.natCast_add]
      refine make_row (α := Nd) ⟨0, 0⟩ te25 tk61 (fun _ => rep_Nd ⟨by decide, by decide⟩ ⟨by decide, by decide⟩) (by decide) (by simp only []; omega) fun vf h0 E0 own hcap hnv => ?_
      simp (disch := omega) only [VW, VY, VZ, TY, ↓reduceIte, Nat.reduceEqDiff, Nat.reduceAdd, Nat.reduceMul, Nat.reduceSub, Nat.reduceLeDiff, List.length_cons, List.length_nil, List.length_append, List.append_assoc, List.take_succ_cons, List.take_zero, List.drop_succ_cons, List.drop_zero, List.set_cons_zero, List.set_cons_succ, true_or, or_true, and_self, Bool.false_eq_true, Nat.le_refl, Option.bind_some, Option.map_some, Option.getD_some, Option.isSome_some, List.map_cons, List.map_nil, List.cons_append, List.nil_append, List.append_nil, List.getElem?_cons_zero, List.getElem?_cons_succ, eq_self, Int.reduceLT, Int.reduceLE, Int.reduceNeg, Int.reduceEq]
      refine loop_rule (fun n e h' => ∃ (i : Nat) (fp : List Nat), e 0 = a ∧ e 5 = vf ∧ e 6 = .int .i64 i ∧ i ≤ l.length ∧ n = l.length - i ∧ Ext h h' ∧
        Own 61 h' (l.take i ++ List.replicate (l.length + roomM l.length - i) ⟨0, 0⟩) vf fp ∧ (∀ b ∈ fp, h.length ≤ b)) ?_ l.length _ _
        ⟨0, [h.length], rfl, rfl, rfl, Nat.zero_le _, rfl, E0, by simpa using own, by simp⟩
      rintro n e h1 ⟨i, fp, e0, e5, e6, hi, rfl, E1, own, hfp⟩
      have hlen : (l.take i ++ List.replicate (l.length + roomM l.length - i) (⟨0, 0⟩ : Nd)).length = l.length + roomM l.length := by simp; omega
      simp (disch := omega) only [VW, VY, VZ, TY, ↓reduceIte, Nat.reduceEqDiff, Nat.reduceAdd, Nat.reduceMul, Nat.reduceSub, Nat.reduceLeDiff, List.length_cons, List.length_nil, List.length_append, List.append_assoc, List.take_succ_cons, List.take_zero, List.drop_succ_cons, List.drop_zero, List.set_cons_zero, List.set_cons_succ, true_or, or_true, and_self, Bool.false_eq_true, Nat.le_refl, Option.bind_some, Option.map_some, Option.getD_some, Option.isSome_some, List.map_cons, List.map_nil, List.cons_append, List.nil_append, List.append_nil, List.getElem?_cons_zero, List.getElem?_cons_succ, eq_self, Int.reduceLT, Int.reduceLE, Int.reduceNeg, Int.reduceEq, e0, e5, e6, hl.isRow.len]
      by_cases hlt : i < l.length
      · obtain ⟨x, hx⟩ := get_some hlt
        have c1 : (i : Int) < (l.length : Int) := by omega
        obtain ⟨_, _, x3, x4, x5⟩ := row_Nd (hl.mono E1) hx
        simp (disch := omega) only [VW, VY, VZ, TY, ↓reduceIte, Nat.reduceEqDiff, Nat.reduceAdd, Nat.reduceMul, Nat.reduceSub, Nat.reduceLeDiff, List.length_cons, List.length_nil, List.length_append, List.append_assoc, List.take_succ_cons, List.take_zero, List.drop_succ_cons, List.drop_zero, List.set_cons_zero, List.set_cons_succ, true_or, or_true, and_self, Bool.false_eq_true, Nat.le_refl, Option.bind_some, Option.map_some, Option.getD_some, Option.isSome_some, List.map_cons, List.map_nil, List.cons_append, List.nil_append, List.append_nil, List.getElem?_cons_zero, List.getElem?_cons_succ, eq_self, Int.reduceLT, Int.reduceLE, Int.reduceNeg, Int.reduceEq, e0, e5, e6, c1, hl.isRow.ix, x3]
        refine .inl ⟨by kernel_rfl, ?_⟩; refine toNode_c fun h2 E2 => ?_
        have own2 := own.frame fun b hb => E2.eq b (own.live b hb)
        have ix := own2.isRow.ix Try.prog
        rw [hlen] at ix
        simp (disch := omega) only [VW, VY, VZ, TY, ↓reduceIte, Nat.reduceEqDiff, Nat.reduceAdd, Nat.reduceMul, Nat.reduceSub, Nat.reduceLeDiff, List.length_cons, List.length_nil, List.length_append, List.append_assoc, List.take_succ_cons, List.take_zero, List.drop_succ_cons, List.drop_zero, List.set_cons_zero, List.set_cons_succ, true_or, or_true, and_self, Bool.false_eq_true, Nat.le_refl, Option.bind_some, Option.map_some, Option.getD_some, Option.isSome_some, List.map_cons, List.map_nil, List.cons_append, List.nil_append, List.append_nil, List.getElem?_cons_zero, List.getElem?_cons_succ, eq_self, Int.reduceLT, Int.reduceLE, Int.reduceNeg, Int.reduceEq, e0, e5, e6, ix]
        refine set_step (α := Nd) (y := x) own2 (by omega) (rep_Nd x4 x5) (by simp) List.nodup_nil fun h3 fp3 own3 chg3 hb3 m3 => ?_
        simp (disch := omega) only [VW, VY, VZ, TY, ↓reduceIte, Nat.reduceEqDiff, Nat.reduceAdd, Nat.reduceMul, Nat.reduceSub, Nat.reduceLeDiff, List.length_cons, List.length_nil, List.length_append, List.append_assoc, List.take_succ_cons, List.take_zero, List.drop_succ_cons, List.drop_zero, List.set_cons_zero, List.set_cons_succ, true_or, or_true, and_self, Bool.false_eq_true, Nat.le_refl, Option.bind_some, Option.map_some, Option.getD_some, Option.isSome_some, List.map_cons, List.map_nil, List.cons_append, List.nil_append, List.append_nil, List.getElem?_cons_zero, List.getElem?_cons_succ, eq_self, Int.reduceLT, Int.reduceLE, Int.reduceNeg, Int.reduceEq, e0, e5, e6, wrap_in]
        rw [show l.length + roomM l.length - i = (l.length + roomM l.length - (i + 1)) + 1 by omega, fill_one hx] at own3
        refine ⟨_, ?_, i + 1, fp3, by simp, by omega, rfl, chg3.ext (E1.trans E2) (fun b hb => ?_), own3, fun b hb => ?_⟩
        · omega
        · simp only [List.mem_singleton] at hb; subst hb; exact hfp _ hb3
        · rcases m3 b hb with hb | hb
          · exact hfp b hb
          · simp at hb
      · obtain rfl : i = l.length := by omega
        have c1 : ¬ (l.length : Int) < (l.length : Int) := by omega
        simp (disch := omega) only [VW, VY, VZ, TY, ↓reduceIte, Nat.reduceEqDiff, Nat.reduceAdd, Nat.reduceMul, Nat.reduceSub, Nat.reduceLeDiff, List.length_cons, List.length_nil, List.length_append, List.append_assoc, List.take_succ_cons, List.take_zero, List.drop_succ_cons, List.drop_zero, List.set_cons_zero, List.set_cons_succ, true_or, or_true, and_self, Bool.false_eq_true, Nat.le_refl, Option.bind_some, Option.map_some, Option.getD_some, Option.isSome_some, List.map_cons, List.map_nil, List.cons_append, List.nil_append, List.append_nil, List.getElem?_cons_zero, List.getElem?_cons_succ, eq_self, Int.reduceLT, Int.reduceLE, Int.reduceNeg, Int.reduceEq, e0, e5, e6, c1, hl.isRow.len]
        refine loop_rule (fun n e h' => ∃ (j : Nat) (fp : List Nat), e 0 = a ∧ e 5 = vf ∧ e 7 = .int .i64 (l.length + j : Nat) ∧ j ≤ roomM l.length ∧ n = roomM l.length - j ∧ Ext h h' ∧
          Own 61 h' (l ++ List.replicate j fillNd ++ List.replicate (roomM l.length - j) ⟨0, 0⟩) vf fp ∧ (∀ b ∈ fp, h.length ≤ b)) ?_ (roomM l.length) _ _
          ⟨0, fp, e0, e5, rfl, Nat.zero_le _, rfl, E1, by simpa using own, hfp⟩
        rintro n e h1 ⟨j, fp, e0, e5, e7, hj, rfl, E1, own, hfp⟩
        have hlen : (l ++ List.replicate j fillNd ++ List.replicate (roomM l.length - j) (⟨0, 0⟩ : Nd)).length = l.length + roomM l.length := by simp; omega
        have len := own.isRow.len Try.prog
        rw [hlen] at len
        simp (disch := omega) only [VW, VY, VZ, TY, ↓reduceIte, Nat.reduceEqDiff, Nat.reduceAdd, Nat.reduceMul, Nat.reduceSub, Nat.reduceLeDiff, List.length_cons, List.length_nil, List.length_append, List.append_assoc, List.take_succ_cons, List.take_zero, List.drop_succ_cons, List.drop_zero, List.set_cons_zero, List.set_cons_succ, true_or, or_true, and_self, Bool.false_eq_true, Nat.le_refl, Option.bind_some, Option.map_some, Option.getD_some, Option.isSome_some, List.map_cons, List.map_nil, List.cons_append, List.nil_append, List.append_nil, List.getElem?_cons_zero, List.getElem?_cons_succ, eq_self, Int.reduceLT, Int.reduceLE, Int.reduceNeg, Int.reduceEq, e0, e5, e7, len]
        by_cases hlt : j < roomM l.length
        · have c1 : ((l.length + j : Nat) : Int) < ((l.length + roomM l.length : Nat) : Int) := by omega
          simp (disch := omega) only [VW, VY, VZ, TY, ↓reduceIte, Nat.reduceEqDiff, Nat.reduceAdd, Nat.reduceMul, Nat.reduceSub, Nat.reduceLeDiff, List.length_cons, List.length_nil, List.length_append, List.append_assoc, List.take_succ_cons, List.take_zero, List.drop_succ_cons, List.drop_zero, List.set_cons_zero, List.set_cons_succ, true_or, or_true, and_self, Bool.false_eq_true, Nat.le_refl, Option.bind_some, Option.map_some, Option.getD_some, Option.isSome_some, List.map_cons, List.map_nil, List.cons_append, List.nil_append, List.append_nil, List.getElem?_cons_zero, List.getElem?_cons_succ, eq_self, Int.reduceLT, Int.reduceLE, Int.reduceNeg, Int.reduceEq, e0, e5, e7, c1]
          refine .inl ⟨by kernel_rfl, ?_⟩; refine fillerNode_c fun h2 E2 => ?_
          have own2 := own.frame fun b hb => E2.eq b (own.live b hb)
          have ix := own2.isRow.ix Try.prog
          rw [hlen] at ix
          simp (disch := omega) only [VW, VY, VZ, TY, ↓reduceIte, Nat.reduceEqDiff, Nat.reduceAdd, Nat.reduceMul, Nat.reduceSub, Nat.reduceLeDiff, List.length_cons, List.length_nil, List.length_append, List.append_assoc, List.take_succ_cons, List.take_zero, List.drop_succ_cons, List.drop_zero, List.set_cons_zero, List.set_cons_succ, true_or, or_true, and_self, Bool.false_eq_true, Nat.le_refl, Option.bind_some, Option.map_some, Option.getD_some, Option.isSome_some, List.map_cons, List.map_nil, List.cons_append, List.nil_append, List.append_nil, List.getElem?_cons_zero, List.getElem?_cons_succ, eq_self, Int.reduceLT, Int.reduceLE, Int.reduceNeg, Int.reduceEq, e0, e5, e7, ix]
          refine set_step (α := Nd) (y := fillNd) own2 (by omega) (rep_Nd ⟨by decide, by decide⟩ ⟨by decide, by decide⟩) (by simp) List.nodup_nil fun h3 fp3 own3 chg3 hb3 m3 => ?_
          simp (disch := omega) only [VW, VY, VZ, TY, ↓reduceIte, Nat.reduceEqDiff, Nat.reduceAdd, Nat.reduceMul, Nat.reduceSub, Nat.reduceLeDiff, List.length_cons, List.length_nil, List.length_append, List.append_assoc, List.take_succ_cons, List.take_zero, List.drop_succ_cons, List.drop_zero, List.set_cons_zero, List.set_cons_succ, true_or, or_true, and_self, Bool.false_eq_true, Nat.le_refl, Option.bind_some, Option.map_some, Option.getD_some, Option.isSome_some, List.map_cons, List.map_nil, List.cons_append, List.nil_append, List.append_nil, List.getElem?_cons_zero, List.getElem?_cons_succ, eq_self, Int.reduceLT, Int.reduceLE, Int.reduceNeg, Int.reduceEq, e0, e5, e7, wrap_in]
          rw [show roomM l.length - j = (roomM l.length - (j + 1)) + 1 by omega, fill_two] at own3
          refine ⟨_, ?_, j + 1, fp3, by simp; omega, by omega, rfl, chg3.ext (E1.trans E2) (fun b hb => ?_), by rw [← List.append_assoc]; exact own3, fun b hb => ?_⟩
          · omega
          · simp only [List.mem_singleton] at hb; subst hb; exact hfp _ hb3
          · rcases m3 b hb with hb | hb
            · exact hfp b hb
            · simp at hb
        · obtain rfl : j = roomM l.length := by omega
          have c1 : ¬ ((l.length + roomM l.length : Nat) : Int) < ((l.length + roomM l.length : Nat) : Int) := by omega
          have hcap' : l.length ≤ rowC vf := by rw [hcap]; omega
          simp (disch := omega) only [VW, VY, VZ, TY, ↓reduceIte, Nat.reduceEqDiff, Nat.reduceAdd, Nat.reduceMul, Nat.reduceSub, Nat.reduceLeDiff, List.length_cons, List.length_nil, List.length_append, List.append_assoc, List.take_succ_cons, List.take_zero, List.drop_succ_cons, List.drop_zero, List.set_cons_zero, List.set_cons_succ, true_or, or_true, and_self, Bool.false_eq_true, Nat.le_refl, Option.bind_some, Option.map_some, Option.getD_some, Option.isSome_some, List.map_cons, List.map_nil, List.cons_append, List.nil_append, List.append_nil, List.getElem?_cons_zero, List.getElem?_cons_succ, eq_self, Int.reduceLT, Int.reduceLE, Int.reduceNeg, Int.reduceEq, e0, e5, e7, c1, hl.isRow.len, own.isRow.sl]
          rw [Nat.sub_self, List.replicate_zero, List.append_nil] at own
          have g : Gave h.length 61 h1 l fillNd (cutV vf 2 0 l.length) := ⟨vf, fp, own, hfp, rfl, hcap⟩
          exact hQ _ _ E1 g.row fun _ => g
end Go.Proofs

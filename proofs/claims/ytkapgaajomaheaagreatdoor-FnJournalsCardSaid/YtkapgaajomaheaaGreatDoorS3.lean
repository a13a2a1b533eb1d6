/- Contracts of functions, facts of types, or the plain law behind one statement (own work): S3. Conditions: those told in each theorem. -/
import Derived.Test.YtkapgaajomaheaaGreatDoorS2
set_option linter.all false
set_option linter.unusedSimpArgs false
set_option linter.unusedVariables false
set_option maxRecDepth 4000
set_option linter.unusedSectionVars false
namespace Go.Proofs
open Go Go.V
theorem size_one {t : ByteArray} (h : t.size = 1) : ∃ c, t = ⟨#[c]⟩ := by
  have hl := str_len t
  cases hd : t.data.toList with
  | nil => rw [hd] at hl; simp at hl; omega
  | cons c r =>
    cases r with
    | nil => exact ⟨c, bytes_inj hd⟩
    | cons d r => rw [hd] at hl; simp at hl; omega
theorem bL_of (t : ByteArray) : bL t.data.toList = t := rfl
theorem extract_list (s : ByteArray) (i j : Nat) : (s.extract i j).data.toList = (s.data.toList.take j).drop i := by
  simp [List.drop_take]
variable [Laid Tryz.prog]
theorem sliteIndexByte_c {s : ByteArray} {c : UInt8} {h : Heap} {Q : Value → Heap → Prop} (hQ : Q (.int .i64 (Lib.indexByte s.data.toList c)) h) : CallsV Tryz.prog 89 [.string s, .int .u8 c.toNat] h Q := by
  refine CallsV.start Tryz.func89 rfl (by rw [Tryz.results89]) (by kernel_rfl) (by rw [Tryz.ntmps89]; simp) ?_
  simp (disch := omega) only [VW, VY, VZ, VA, VB, VC, VE, TY, ↓reduceIte, Nat.reduceEqDiff, Nat.reduceAdd, Nat.reduceMul, Nat.reduceSub, Nat.reduceLeDiff, List.length_cons, List.length_nil, List.length_append, List.append_assoc, List.take_succ_cons, List.take_zero, List.drop_succ_cons, List.drop_zero, List.set_cons_zero, List.set_cons_succ, true_or, or_true, and_self, Bool.false_eq_true, Nat.le_refl, Option.bind_some, Option.map_some, Option.getD_some, Option.isSome_some, List.map_cons, List.map_nil, List.cons_append, List.nil_append, List.append_nil, List.getElem?_cons_zero, List.getElem?_cons_succ, eq_self, Int.reduceLT, Int.reduceLE, Int.reduceNeg, Int.reduceEq]
  refine .inr ⟨_, pure_indexByte s c, ?_⟩
  simp (disch := omega) only [VW, VY, VZ, VA, VB, VC, VE, TY, ↓reduceIte, Nat.reduceEqDiff, Nat.reduceAdd, Nat.reduceMul, Nat.reduceSub, Nat.reduceLeDiff, List.length_cons, List.length_nil, List.length_append, List.append_assoc, List.take_succ_cons, List.take_zero, List.drop_succ_cons, List.drop_zero, List.set_cons_zero, List.set_cons_succ, true_or, or_true, and_self, Bool.false_eq_true, Nat.le_refl, Option.bind_some, Option.map_some, Option.getD_some, Option.isSome_some, List.map_cons, List.map_nil, List.cons_append, List.nil_append, List.append_nil, List.getElem?_cons_zero, List.getElem?_cons_succ, eq_self, Int.reduceLT, Int.reduceLE, Int.reduceNeg, Int.reduceEq]
  exact hQ
theorem indexByte_c {s : ByteArray} {c : UInt8} {h : Heap} {Q : Value → Heap → Prop} (hQ : Q (.int .i64 (Lib.indexByte s.data.toList c)) h) : CallsV Tryz.prog 66 [.string s, .int .u8 c.toNat] h Q := by
  refine CallsV.start Tryz.func66 rfl (by rw [Tryz.results66]) (by kernel_rfl) (by rw [Tryz.ntmps66]; simp) ?_
  simp (disch := omega) only [VW, VY, VZ, VA, VB, VC, VE, TY, ↓reduceIte, Nat.reduceEqDiff, Nat.reduceAdd, Nat.reduceMul, Nat.reduceSub, Nat.reduceLeDiff, List.length_cons, List.length_nil, List.length_append, List.append_assoc, List.take_succ_cons, List.take_zero, List.drop_succ_cons, List.drop_zero, List.set_cons_zero, List.set_cons_succ, true_or, or_true, and_self, Bool.false_eq_true, Nat.le_refl, Option.bind_some, Option.map_some, Option.getD_some, Option.isSome_some, List.map_cons, List.map_nil, List.cons_append, List.nil_append, List.append_nil, List.getElem?_cons_zero, List.getElem?_cons_succ, eq_self, Int.reduceLT, Int.reduceLE, Int.reduceNeg, Int.reduceEq]
  refine .inl ⟨by kernel_rfl, ?_⟩; refine sliteIndexByte_c ?_
  simp (disch := omega) only [VW, VY, VZ, VA, VB, VC, VE, TY, ↓reduceIte, Nat.reduceEqDiff, Nat.reduceAdd, Nat.reduceMul, Nat.reduceSub, Nat.reduceLeDiff, List.length_cons, List.length_nil, List.length_append, List.append_assoc, List.take_succ_cons, List.take_zero, List.drop_succ_cons, List.drop_zero, List.set_cons_zero, List.set_cons_succ, true_or, or_true, and_self, Bool.false_eq_true, Nat.le_refl, Option.bind_some, Option.map_some, Option.getD_some, Option.isSome_some, List.map_cons, List.map_nil, List.cons_append, List.nil_append, List.append_nil, List.getElem?_cons_zero, List.getElem?_cons_succ, eq_self, Int.reduceLT, Int.reduceLE, Int.reduceNeg, Int.reduceEq]
  exact hQ
theorem sliteIndex_c {s : ByteArray} {c : UInt8} {h : Heap} {Q : Value → Heap → Prop} (hQ : Q (.int .i64 (Lib.indexByte s.data.toList c)) h) : CallsV Tryz.prog 91 [.string s, .string ⟨#[c]⟩] h Q := by
  refine CallsV.start Tryz.func91 rfl (by rw [Tryz.results91]) (by kernel_rfl) (by rw [Tryz.ntmps91]; simp) ?_
  have z1 : (⟨#[c]⟩ : ByteArray).size = 1 := rfl
  have c1 : ((1 : Nat) : Int) = 1 := rfl
  have g : (⟨#[c]⟩ : ByteArray)[0]? = some c := rfl
  by_cases k : (⟨#[c]⟩ : ByteArray) = s
  · subst k
    have e : Lib.indexByte (⟨#[c]⟩ : ByteArray).data.toList c = 0 := by simp [Lib.indexByte]
    rw [e] at hQ
    simp (disch := omega) only [VW, VY, VZ, VA, VB, VC, VE, TY, ↓reduceIte, Nat.reduceEqDiff, Nat.reduceAdd, Nat.reduceMul, Nat.reduceSub, Nat.reduceLeDiff, List.length_cons, List.length_nil, List.length_append, List.append_assoc, List.take_succ_cons, List.take_zero, List.drop_succ_cons, List.drop_zero, List.set_cons_zero, List.set_cons_succ, true_or, or_true, and_self, Bool.false_eq_true, Nat.le_refl, Option.bind_some, Option.map_some, Option.getD_some, Option.isSome_some, List.map_cons, List.map_nil, List.cons_append, List.nil_append, List.append_nil, List.getElem?_cons_zero, List.getElem?_cons_succ, eq_self, Int.reduceLT, Int.reduceLE, Int.reduceNeg, Int.reduceEq, z1, c1]
    exact hQ
  · simp (disch := omega) only [VW, VY, VZ, VA, VB, VC, VE, TY, ↓reduceIte, Nat.reduceEqDiff, Nat.reduceAdd, Nat.reduceMul, Nat.reduceSub, Nat.reduceLeDiff, List.length_cons, List.length_nil, List.length_append, List.append_assoc, List.take_succ_cons, List.take_zero, List.drop_succ_cons, List.drop_zero, List.set_cons_zero, List.set_cons_succ, true_or, or_true, and_self, Bool.false_eq_true, Nat.le_refl, Option.bind_some, Option.map_some, Option.getD_some, Option.isSome_some, List.map_cons, List.map_nil, List.cons_append, List.nil_append, List.append_nil, List.getElem?_cons_zero, List.getElem?_cons_succ, eq_self, Int.reduceLT, Int.reduceLE, Int.reduceNeg, Int.reduceEq, z1, k, g, x_ix_zero, c1]
    refine .inl ⟨by kernel_rfl, ?_⟩; refine sliteIndexByte_c ?_
    simp (disch := omega) only [VW, VY, VZ, VA, VB, VC, VE, TY, ↓reduceIte, Nat.reduceEqDiff, Nat.reduceAdd, Nat.reduceMul, Nat.reduceSub, Nat.reduceLeDiff, List.length_cons, List.length_nil, List.length_append, List.append_assoc, List.take_succ_cons, List.take_zero, List.drop_succ_cons, List.drop_zero, List.set_cons_zero, List.set_cons_succ, true_or, or_true, and_self, Bool.false_eq_true, Nat.le_refl, Option.bind_some, Option.map_some, Option.getD_some, Option.isSome_some, List.map_cons, List.map_nil, List.cons_append, List.nil_append, List.append_nil, List.getElem?_cons_zero, List.getElem?_cons_succ, eq_self, Int.reduceLT, Int.reduceLE, Int.reduceNeg, Int.reduceEq]
    exact hQ
theorem index_c {s : ByteArray} {c : UInt8} {h : Heap} {Q : Value → Heap → Prop} (hQ : Q (.int .i64 (Lib.indexByte s.data.toList c)) h) : CallsV Tryz.prog 68 [.string s, .string ⟨#[c]⟩] h Q := by
  refine CallsV.start Tryz.func68 rfl (by rw [Tryz.results68]) (by kernel_rfl) (by rw [Tryz.ntmps68]; simp) ?_
  simp (disch := omega) only [VW, VY, VZ, VA, VB, VC, VE, TY, ↓reduceIte, Nat.reduceEqDiff, Nat.reduceAdd, Nat.reduceMul, Nat.reduceSub, Nat.reduceLeDiff, List.length_cons, List.length_nil, List.length_append, List.append_assoc, List.take_succ_cons, List.take_zero, List.drop_succ_cons, List.drop_zero, List.set_cons_zero, List.set_cons_succ, true_or, or_true, and_self, Bool.false_eq_true, Nat.le_refl, Option.bind_some, Option.map_some, Option.getD_some, Option.isSome_some, List.map_cons, List.map_nil, List.cons_append, List.nil_append, List.append_nil, List.getElem?_cons_zero, List.getElem?_cons_succ, eq_self, Int.reduceLT, Int.reduceLE, Int.reduceNeg, Int.reduceEq]
  refine .inl ⟨by kernel_rfl, ?_⟩; refine sliteIndex_c ?_
  simp (disch := omega) only [VW, VY, VZ, VA, VB, VC, VE, TY, ↓reduceIte, Nat.reduceEqDiff, Nat.reduceAdd, Nat.reduceMul, Nat.reduceSub, Nat.reduceLeDiff, List.length_cons, List.length_nil, List.length_append, List.append_assoc, List.take_succ_cons, List.take_zero, List.drop_succ_cons, List.drop_zero, List.set_cons_zero, List.set_cons_succ, true_or, or_true, and_self, Bool.false_eq_true, Nat.le_refl, Option.bind_some, Option.map_some, Option.getD_some, Option.isSome_some, List.map_cons, List.map_nil, List.cons_append, List.nil_append, List.append_nil, List.getElem?_cons_zero, List.getElem?_cons_succ, eq_self, Int.reduceLT, Int.reduceLE, Int.reduceNeg, Int.reduceEq]
  exact hQ
theorem count_c {s : ByteArray} {c : UInt8} {h : Heap} {Q : Value → Heap → Prop} (hQ : Q (.int .i64 (Lib.countByte s.data.toList c : Nat)) h) : CallsV Tryz.prog 105 [.string s, .string ⟨#[c]⟩] h Q := by
  refine CallsV.start Tryz.func105 rfl (by rw [Tryz.results105]) (by kernel_rfl) (by rw [Tryz.ntmps105]; simp) ?_
  have z1 : (⟨#[c]⟩ : ByteArray).size = 1 := rfl
  have c1 : ((1 : Nat) : Int) = 1 := rfl
  have g : (⟨#[c]⟩ : ByteArray)[0]? = some c := rfl
  simp (disch := omega) only [VW, VY, VZ, VA, VB, VC, VE, TY, ↓reduceIte, Nat.reduceEqDiff, Nat.reduceAdd, Nat.reduceMul, Nat.reduceSub, Nat.reduceLeDiff, List.length_cons, List.length_nil, List.length_append, List.append_assoc, List.take_succ_cons, List.take_zero, List.drop_succ_cons, List.drop_zero, List.set_cons_zero, List.set_cons_succ, true_or, or_true, and_self, Bool.false_eq_true, Nat.le_refl, Option.bind_some, Option.map_some, Option.getD_some, Option.isSome_some, List.map_cons, List.map_nil, List.cons_append, List.nil_append, List.append_nil, List.getElem?_cons_zero, List.getElem?_cons_succ, eq_self, Int.reduceLT, Int.reduceLE, Int.reduceNeg, Int.reduceEq, z1, g, x_ix_zero, c1]
  refine .inr ⟨_, pure_countByte s c, ?_⟩
  simp (disch := omega) only [VW, VY, VZ, VA, VB, VC, VE, TY, ↓reduceIte, Nat.reduceEqDiff, Nat.reduceAdd, Nat.reduceMul, Nat.reduceSub, Nat.reduceLeDiff, List.length_cons, List.length_nil, List.length_append, List.append_assoc, List.take_succ_cons, List.take_zero, List.drop_succ_cons, List.drop_zero, List.set_cons_zero, List.set_cons_succ, true_or, or_true, and_self, Bool.false_eq_true, Nat.le_refl, Option.bind_some, Option.map_some, Option.getD_some, Option.isSome_some, List.map_cons, List.map_nil, List.cons_append, List.nil_append, List.append_nil, List.getElem?_cons_zero, List.getElem?_cons_succ, eq_self, Int.reduceLT, Int.reduceLE, Int.reduceNeg, Int.reduceEq]
  exact hQ
theorem count_le (c : UInt8) (l : List UInt8) : Lib.countByte l c ≤ l.length := List.count_le_length
theorem genSplit_o {s : ByteArray} {c : UInt8} {h : Heap} {Q : Value → Heap → Prop} (hs : s.size ≤ 1000000)
    (hQ : ∀ v h', Sep h h' [ownA (α := ByteArray) 9 ((splitL c s.data.toList).map bL) v] → Q v h') : CallsV Tryz.prog 90 [.string s, .string ⟨#[c]⟩, .int .i64 0, .int .i64 (-1)] h Q := by
  refine CallsV.start Tryz.func90 rfl (by rw [Tryz.results90]) (by kernel_rfl) (by rw [Tryz.ntmps90]; simp) ?_
  have hl := str_len s
  have z1 : (⟨#[c]⟩ : ByteArray).size = 1 := rfl
  have c1 : ((1 : Nat) : Int) = 1 := rfl
  have z2 : ¬ (⟨#[c]⟩ : ByteArray) = ⟨#[]⟩ := by intro k; have := congrArg ByteArray.size k; rw [z1] at this; cases this
  have hc := count_le c s.data.toList
  simp (disch := omega) only [VW, VY, VZ, VA, VB, VC, VE, TY, ↓reduceIte, Nat.reduceEqDiff, Nat.reduceAdd, Nat.reduceMul, Nat.reduceSub, Nat.reduceLeDiff, List.length_cons, List.length_nil, List.length_append, List.append_assoc, List.take_succ_cons, List.take_zero, List.drop_succ_cons, List.drop_zero, List.set_cons_zero, List.set_cons_succ, true_or, or_true, and_self, Bool.false_eq_true, Nat.le_refl, Option.bind_some, Option.map_some, Option.getD_some, Option.isSome_some, List.map_cons, List.map_nil, List.cons_append, List.nil_append, List.append_nil, List.getElem?_cons_zero, List.getElem?_cons_succ, eq_self, Int.reduceLT, Int.reduceLE, Int.reduceNeg, Int.reduceEq, z2]
  refine .inl ⟨by kernel_rfl, ?_⟩; refine count_c ?_
  generalize hN : Lib.countByte s.data.toList c = N at *
  have m1 : min ((N : Int) + 1) ((s.size : Int) + 1) = (N : Int) + 1 := by omega
  simp (disch := omega) only [VW, VY, VZ, VA, VB, VC, VE, TY, ↓reduceIte, Nat.reduceEqDiff, Nat.reduceAdd, Nat.reduceMul, Nat.reduceSub, Nat.reduceLeDiff, List.length_cons, List.length_nil, List.length_append, List.append_assoc, List.take_succ_cons, List.take_zero, List.drop_succ_cons, List.drop_zero, List.set_cons_zero, List.set_cons_succ, true_or, or_true, and_self, Bool.false_eq_true, Nat.le_refl, Option.bind_some, Option.map_some, Option.getD_some, Option.isSome_some, List.map_cons, List.map_nil, List.cons_append, List.nil_append, List.append_nil, List.getElem?_cons_zero, List.getElem?_cons_succ, eq_self, Int.reduceLT, Int.reduceLE, Int.reduceNeg, Int.reduceEq, m1, wrap_in]
  rw [show ((N : Int) + 1) = ((N + 1 : Nat) : Int) from by omega]
  refine sep_make (α := ByteArray) ⟨#[]⟩ (Sep.nil (.refl h)) te35 tk9 (fun h => rep_str (by decide)) (by decide) (by simp only []; omega) fun va h0 sp hcap hnv => ?_
  have e1 : ((N + 1 : Nat) : Int) - 1 = (N : Int) := by omega
  simp (disch := omega) only [VW, VY, VZ, VA, VB, VC, VE, TY, ↓reduceIte, Nat.reduceEqDiff, Nat.reduceAdd, Nat.reduceMul, Nat.reduceSub, Nat.reduceLeDiff, List.length_cons, List.length_nil, List.length_append, List.append_assoc, List.take_succ_cons, List.take_zero, List.drop_succ_cons, List.drop_zero, List.set_cons_zero, List.set_cons_succ, true_or, or_true, and_self, Bool.false_eq_true, Nat.le_refl, Option.bind_some, Option.map_some, Option.getD_some, Option.isSome_some, List.map_cons, List.map_nil, List.cons_append, List.nil_append, List.append_nil, List.getElem?_cons_zero, List.getElem?_cons_succ, eq_self, Int.reduceLT, Int.reduceLE, Int.reduceNeg, Int.reduceEq, e1, wrap_in]
  refine loop_rule (fun n e h' => ∃ (i : Nat) (t : ByteArray) (D : List (List UInt8)), e 0 = .string t ∧ e 1 = .string ⟨#[c]⟩ ∧ e 2 = .int .i64 0 ∧ e 3 = .int .i64 N ∧ e 9 = va ∧ e 10 = .int .i64 i ∧ i ≤ N ∧ t.size ≤ s.size ∧ D.length = i ∧ splitL c s.data.toList = D ++ splitL c t.data.toList ∧ n = N - i ∧ Sep h h' [ownA (α := ByteArray) 9 (D.map bL ++ List.replicate (N + 1 - i) ⟨#[]⟩) va]) ?_ N _ _
    ⟨0, s, [], rfl, rfl, rfl, rfl, rfl, rfl, Nat.zero_le _, Nat.le_refl _, rfl, rfl, rfl, by simpa using sp⟩
  rintro n e h' ⟨i, t, D, e0, e1, e2, e3, e9, e10, hi, ht, hD, hsp, rfl, sp⟩
  have hlt0 := str_len t
  have hlen := congrArg List.length hsp
  rw [splitL_count, hN, List.length_append, splitL_count, hD] at hlen
  have hrl : (D.map bL ++ List.replicate (N + 1 - i) (⟨#[]⟩ : ByteArray)).length = N + 1 := by simp; omega
  have ix := sp.row.isRow.ix Tryz.prog
  rw [hrl] at ix
  simp (disch := omega) only [VW, VY, VZ, VA, VB, VC, VE, TY, ↓reduceIte, Nat.reduceEqDiff, Nat.reduceAdd, Nat.reduceMul, Nat.reduceSub, Nat.reduceLeDiff, List.length_cons, List.length_nil, List.length_append, List.append_assoc, List.take_succ_cons, List.take_zero, List.drop_succ_cons, List.drop_zero, List.set_cons_zero, List.set_cons_succ, true_or, or_true, and_self, Bool.false_eq_true, Nat.le_refl, Option.bind_some, Option.map_some, Option.getD_some, Option.isSome_some, List.map_cons, List.map_nil, List.cons_append, List.nil_append, List.append_nil, List.getElem?_cons_zero, List.getElem?_cons_succ, eq_self, Int.reduceLT, Int.reduceLE, Int.reduceNeg, Int.reduceEq, e3, e10]
  by_cases hlt : i < N
  · have q1 : (i : Int) < (N : Int) := by omega
    simp (disch := omega) only [VW, VY, VZ, VA, VB, VC, VE, TY, ↓reduceIte, Nat.reduceEqDiff, Nat.reduceAdd, Nat.reduceMul, Nat.reduceSub, Nat.reduceLeDiff, List.length_cons, List.length_nil, List.length_append, List.append_assoc, List.take_succ_cons, List.take_zero, List.drop_succ_cons, List.drop_zero, List.set_cons_zero, List.set_cons_succ, true_or, or_true, and_self, Bool.false_eq_true, Nat.le_refl, Option.bind_some, Option.map_some, Option.getD_some, Option.isSome_some, List.map_cons, List.map_nil, List.cons_append, List.nil_append, List.append_nil, List.getElem?_cons_zero, List.getElem?_cons_succ, eq_self, Int.reduceLT, Int.reduceLE, Int.reduceNeg, Int.reduceEq, e0, e1, q1]
    refine .inl ⟨by kernel_rfl, ?_⟩; refine index_c ?_
    rcases index_cases t.data.toList c with ⟨hm, hno⟩ | ⟨j, hm, hj, hcut, hno⟩
    · exfalso
      have := splitL_count c t.data.toList
      rw [splitL_no hno] at this
      simp only [List.length_cons, List.length_nil] at this
      omega
    · obtain ⟨_, hspl⟩ := splitL_at hm
      rw [hm]
      have q2 : ¬ (j : Int) < 0 := by omega
      have q3 : (j : Int) ≤ (t.size : Int) := by omega
      have q4 : (j : Int) + 1 ≤ (t.size : Int) := by omega
      have q5 : (i : Int) < ((N + 1 : Nat) : Int) := by omega
      have i1 : ((j : Int) + 1).toNat = j + 1 := by omega
      have q6 : (0 : Int) ≤ (j : Int) + 1 := by omega
      have sp := sp.rep0 (x := t.extract 0 j) (rep_str (h := h') (by rw [ByteArray.size_extract]; omega))
      simp (disch := omega) only [VW, VY, VZ, VA, VB, VC, VE, TY, ↓reduceIte, Nat.reduceEqDiff, Nat.reduceAdd, Nat.reduceMul, Nat.reduceSub, Nat.reduceLeDiff, List.length_cons, List.length_nil, List.length_append, List.append_assoc, List.take_succ_cons, List.take_zero, List.drop_succ_cons, List.drop_zero, List.set_cons_zero, List.set_cons_succ, true_or, or_true, and_self, Bool.false_eq_true, Nat.le_refl, Option.bind_some, Option.map_some, Option.getD_some, Option.isSome_some, List.map_cons, List.map_nil, List.cons_append, List.nil_append, List.append_nil, List.getElem?_cons_zero, List.getElem?_cons_succ, eq_self, Int.reduceLT, Int.reduceLE, Int.reduceNeg, Int.reduceEq, e0, e1, e2, e9, e10, q2, q3, q5, ix, wrap_in]
      refine sep_set1 (α := ByteArray) (i := i) (y := t.extract 0 j) (Sep.swap sp) rfl (by omega) fun h3 sp => ?_
      simp (disch := omega) only [VW, VY, VZ, VA, VB, VC, VE, TY, ↓reduceIte, Nat.reduceEqDiff, Nat.reduceAdd, Nat.reduceMul, Nat.reduceSub, Nat.reduceLeDiff, List.length_cons, List.length_nil, List.length_append, List.append_assoc, List.take_succ_cons, List.take_zero, List.drop_succ_cons, List.drop_zero, List.set_cons_zero, List.set_cons_succ, true_or, or_true, and_self, Bool.false_eq_true, Nat.le_refl, Option.bind_some, Option.map_some, Option.getD_some, Option.isSome_some, List.map_cons, List.map_nil, List.cons_append, List.nil_append, List.append_nil, List.getElem?_cons_zero, List.getElem?_cons_succ, eq_self, Int.reduceLT, Int.reduceLE, Int.reduceNeg, Int.reduceEq, e0, e1, e2, e3, e9, e10, z1, c1, q4, q6, i1, wrap_in]
      have hset : (D.map bL ++ List.replicate (N + 1 - i) (⟨#[]⟩ : ByteArray)).set i (t.extract 0 j) = (D ++ [t.data.toList.take j]).map bL ++ List.replicate (N + 1 - (i + 1)) ⟨#[]⟩ := by
        have hDl : (D.map bL).length = i := by simp [hD]
        rw [List.set_append_right _ _ (by omega), hDl, Nat.sub_self, show N + 1 - i = (N + 1 - (i + 1)) + 1 by omega, List.replicate_succ, List.set_cons_zero, List.map_append, List.map_singleton, List.append_assoc]
        congr 2
        exact bytes_inj (by rw [extract_list]; rfl)
      rw [hset] at sp
      refine ⟨_, by omega, i + 1, t.extract (j + 1) t.size, D ++ [t.data.toList.take j], rfl, by simp, by omega, by rw [ByteArray.size_extract]; omega, by rw [List.length_append, hD]; rfl, ?_, rfl, sp⟩
      rw [hsp, hspl, extract_list, ← hlt0, List.take_length]; simp
  · obtain rfl : i = N := by omega
    have q1 : ¬ (i : Int) < (i : Int) := by omega
    have q5 : (i : Int) < ((i + 1 : Nat) : Int) := by omega
    have hl1 : (splitL c t.data.toList).length = 1 := by rw [splitL_count]; omega
    have ht1 : splitL c t.data.toList = [t.data.toList] := by
      rcases index_cases t.data.toList c with ⟨hm, hno⟩ | ⟨j, hm, hj, hcut, hno⟩
      · exact splitL_no hno
      · exfalso
        obtain ⟨_, hspl⟩ := splitL_at hm
        rw [hspl] at hl1
        have := splitL_ne c (t.data.toList.drop (j + 1))
        simp at hl1
        exact this hl1
    have sp := sp.rep0 (x := t) (rep_str (h := h') (by omega))
    simp (disch := omega) only [VW, VY, VZ, VA, VB, VC, VE, TY, ↓reduceIte, Nat.reduceEqDiff, Nat.reduceAdd, Nat.reduceMul, Nat.reduceSub, Nat.reduceLeDiff, List.length_cons, List.length_nil, List.length_append, List.append_assoc, List.take_succ_cons, List.take_zero, List.drop_succ_cons, List.drop_zero, List.set_cons_zero, List.set_cons_succ, true_or, or_true, and_self, Bool.false_eq_true, Nat.le_refl, Option.bind_some, Option.map_some, Option.getD_some, Option.isSome_some, List.map_cons, List.map_nil, List.cons_append, List.nil_append, List.append_nil, List.getElem?_cons_zero, List.getElem?_cons_succ, eq_self, Int.reduceLT, Int.reduceLE, Int.reduceNeg, Int.reduceEq, e0, e3, e9, e10, q1, q5, ix]
    refine sep_set1 (α := ByteArray) (i := i) (y := t) (Sep.swap sp) rfl (by omega) fun h3 sp => ?_
    have hset : (D.map bL ++ List.replicate (i + 1 - i) (⟨#[]⟩ : ByteArray)).set i t = (splitL c s.data.toList).map bL := by
      have hDl : (D.map bL).length = i := by simp [hD]
      rw [List.set_append_right _ _ (by omega), hDl, Nat.sub_self, show i + 1 - i = 1 by omega, hsp, ht1, List.map_append]
      rfl
    rw [hset] at sp
    have hfl : ((splitL c s.data.toList).map bL).length = i + 1 := by rw [List.length_map, splitL_count, hN]
    have e5 : (i : Int) + 1 = ((i + 1 : Nat) : Int) := by omega
    have q7 : ((i + 1 : Nat) : Int) ≤ (rowC va : Int) := by rw [hcap]; simp
    have sl := sp.row.isRow.sl
    simp (disch := omega) only [VW, VY, VZ, VA, VB, VC, VE, TY, ↓reduceIte, Nat.reduceEqDiff, Nat.reduceAdd, Nat.reduceMul, Nat.reduceSub, Nat.reduceLeDiff, List.length_cons, List.length_nil, List.length_append, List.append_assoc, List.take_succ_cons, List.take_zero, List.drop_succ_cons, List.drop_zero, List.set_cons_zero, List.set_cons_succ, true_or, or_true, and_self, Bool.false_eq_true, Nat.le_refl, Option.bind_some, Option.map_some, Option.getD_some, Option.isSome_some, List.map_cons, List.map_nil, List.cons_append, List.nil_append, List.append_nil, List.getElem?_cons_zero, List.getElem?_cons_succ, eq_self, Int.reduceLT, Int.reduceLE, Int.reduceNeg, Int.reduceEq, e9, e10, wrap_in, e5, sl, q7]
    have sp := sp.cut (lo := 0) (m := i + 1) (Nat.zero_le _) (by omega)
    rw [← hfl, List.take_length, List.drop_zero, hfl] at sp
    exact hQ _ _ sp
theorem split_o {s : ByteArray} {c : UInt8} {h : Heap} {Q : Value → Heap → Prop} (hs : s.size ≤ 1000000)
    (hQ : ∀ v h', Sep h h' [ownA (α := ByteArray) 9 ((splitL c s.data.toList).map bL) v] → Q v h') : CallsV Tryz.prog 67 [.string s, .string ⟨#[c]⟩] h Q := by
  refine CallsV.start Tryz.func67 rfl (by rw [Tryz.results67]) (by kernel_rfl) (by rw [Tryz.ntmps67]; simp) ?_
  simp (disch := omega) only [VW, VY, VZ, VA, VB, VC, VE, TY, ↓reduceIte, Nat.reduceEqDiff, Nat.reduceAdd, Nat.reduceMul, Nat.reduceSub, Nat.reduceLeDiff, List.length_cons, List.length_nil, List.length_append, List.append_assoc, List.take_succ_cons, List.take_zero, List.drop_succ_cons, List.drop_zero, List.set_cons_zero, List.set_cons_succ, true_or, or_true, and_self, Bool.false_eq_true, Nat.le_refl, Option.bind_some, Option.map_some, Option.getD_some, Option.isSome_some, List.map_cons, List.map_nil, List.cons_append, List.nil_append, List.append_nil, List.getElem?_cons_zero, List.getElem?_cons_succ, eq_self, Int.reduceLT, Int.reduceLE, Int.reduceNeg, Int.reduceEq]
  refine .inl ⟨by kernel_rfl, ?_⟩; refine genSplit_o hs fun v h' r => ?_
  simp (disch := omega) only [VW, VY, VZ, VA, VB, VC, VE, TY, ↓reduceIte, Nat.reduceEqDiff, Nat.reduceAdd, Nat.reduceMul, Nat.reduceSub, Nat.reduceLeDiff, List.length_cons, List.length_nil, List.length_append, List.append_assoc, List.take_succ_cons, List.take_zero, List.drop_succ_cons, List.drop_zero, List.set_cons_zero, List.set_cons_succ, true_or, or_true, and_self, Bool.false_eq_true, Nat.le_refl, Option.bind_some, Option.map_some, Option.getD_some, Option.isSome_some, List.map_cons, List.map_nil, List.cons_append, List.nil_append, List.append_nil, List.getElem?_cons_zero, List.getElem?_cons_succ, eq_self, Int.reduceLT, Int.reduceLE, Int.reduceNeg, Int.reduceEq]
  exact hQ v h' r
theorem split_c {s : ByteArray} {c : UInt8} {h : Heap} {Q : Value → Heap → Prop} (hs : s.size ≤ 1000000)
    (hQ : ∀ v h', Ext h h' → Row h' ((splitL c s.data.toList).map bL) v → Q v h') : CallsV Tryz.prog 67 [.string s, .string ⟨#[c]⟩] h Q :=
  split_o hs fun v h' s => hQ v h' s.ext s.row
end Go.Proofs

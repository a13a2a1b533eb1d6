/- Contracts of functions, facts of types, or the plain law behind one statement (own work): JT. Conditions: those told in each theorem. -/
import Derived.Test.YtkapgaajomaheaaGreatDoorJS
set_option linter.all false
set_option linter.unusedSimpArgs false
set_option linter.unusedVariables false
set_option maxRecDepth 4000
namespace Go.Proofs
open Go Go.V
theorem readMarks_c {s : ByteArray} {k : Nat} {h : Heap} {Q : Value → Heap → Prop} (hs : s.size ≤ 1000000) (hk : k ≤ 40)
    (hQ : ∀ v h', Sep h h' [ownA 26 (readM k s.data.toList).1 v] → Q (.tuple #[v, .int .i64 (readM k s.data.toList).2]) h') :
    CallsV Tryz.prog 52 [.string s, .int .i64 k] h Q := by
  refine CallsV.start Tryz.func52 rfl (by rw [Tryz.results52]) (by kernel_rfl) (by rw [Tryz.ntmps52]; simp) ?_
  have hl := str_len s
  simp (disch := omega) only [VW, VY, VZ, VA, VB, VC, VE, TY, ↓reduceIte, Nat.reduceEqDiff, Nat.reduceAdd, Nat.reduceMul, Nat.reduceSub, Nat.reduceLeDiff, List.length_cons, List.length_nil, List.length_append, List.append_assoc, List.take_succ_cons, List.take_zero, List.drop_succ_cons, List.drop_zero, List.set_cons_zero, List.set_cons_succ, true_or, or_true, and_self, Bool.false_eq_true, Nat.le_refl, Option.bind_some, Option.map_some, Option.getD_some, Option.isSome_some, List.map_cons, List.map_nil, List.cons_append, List.nil_append, List.append_nil, List.getElem?_cons_zero, List.getElem?_cons_succ, eq_self, Int.reduceLT, Int.reduceLE, Int.reduceNeg, Int.reduceEq]
  refine loop_rule (fun n e h' => ∃ (f : Nat) (vo : Value) (D : List Mk), e 0 = .string s ∧ e 1 = .int .i64 k ∧ e 6 = vo ∧ e 7 = .int .i64 f ∧ f ≤ s.size ∧ k + D.length ≤ 40 ∧
      readM k s.data.toList = (D ++ (readM (k + D.length) (s.data.toList.drop f)).1, f + (readM (k + D.length) (s.data.toList.drop f)).2) ∧ n = s.size - f ∧ Sep h h' [ownA 26 D vo]) ?_ s.size _ _
    ⟨0, _, [], rfl, rfl, rfl, rfl, Nat.zero_le _, by simp; omega, by simp, rfl, (Sep.nil (.refl h)).nilA _⟩
  rintro n e h' ⟨f, vo, D, e0, e1, e6, e7, hf, hD, hR, rfl, sp⟩
  have len := sp.row.isRow.len Tryz.prog
  have pl := row_plain sp.row.isRow
  simp (disch := omega) only [VW, VY, VZ, VA, VB, VC, VE, TY, ↓reduceIte, Nat.reduceEqDiff, Nat.reduceAdd, Nat.reduceMul, Nat.reduceSub, Nat.reduceLeDiff, List.length_cons, List.length_nil, List.length_append, List.append_assoc, List.take_succ_cons, List.take_zero, List.drop_succ_cons, List.drop_zero, List.set_cons_zero, List.set_cons_succ, true_or, or_true, and_self, Bool.false_eq_true, Nat.le_refl, Option.bind_some, Option.map_some, Option.getD_some, Option.isSome_some, List.map_cons, List.map_nil, List.cons_append, List.nil_append, List.append_nil, List.getElem?_cons_zero, List.getElem?_cons_succ, eq_self, Int.reduceLT, Int.reduceLE, Int.reduceNeg, Int.reduceEq, e1, e6, len, wrap_in]
  by_cases h40 : k + D.length < 40
  · have q2 : (k : Int) + (D.length : Int) < 40 := by omega
    have q3 : (f : Int) ≤ (s.size : Int) := by omega
    have hx : (s.extract f s.size).data.toList = s.data.toList.drop f := by rw [extract_list, ← hl, List.take_length]
    simp (disch := omega) only [VW, VY, VZ, VA, VB, VC, VE, TY, ↓reduceIte, Nat.reduceEqDiff, Nat.reduceAdd, Nat.reduceMul, Nat.reduceSub, Nat.reduceLeDiff, List.length_cons, List.length_nil, List.length_append, List.append_assoc, List.take_succ_cons, List.take_zero, List.drop_succ_cons, List.drop_zero, List.set_cons_zero, List.set_cons_succ, true_or, or_true, and_self, Bool.false_eq_true, Nat.le_refl, Option.bind_some, Option.map_some, Option.getD_some, Option.isSome_some, List.map_cons, List.map_nil, List.cons_append, List.nil_append, List.append_nil, List.getElem?_cons_zero, List.getElem?_cons_succ, eq_self, Int.reduceLT, Int.reduceLE, Int.reduceNeg, Int.reduceEq, q2, e0, e7, q3]
    refine .inl ⟨by kernel_rfl, ?_⟩; refine indexByte_c (c := 10) ?_
    rw [hx]
    rcases cutL_index (l := s.data.toList.drop f) with ⟨hm, hcut⟩ | ⟨j, hm, hj, hcut⟩
    · rw [readM_none hcut] at hR
      simp only [List.append_nil, Nat.add_zero] at hR
      rw [hR] at hQ
      dsimp only at hQ
      rw [hm]
      simp (disch := omega) only [VW, VY, VZ, VA, VB, VC, VE, TY, ↓reduceIte, Nat.reduceEqDiff, Nat.reduceAdd, Nat.reduceMul, Nat.reduceSub, Nat.reduceLeDiff, List.length_cons, List.length_nil, List.length_append, List.append_assoc, List.take_succ_cons, List.take_zero, List.drop_succ_cons, List.drop_zero, List.set_cons_zero, List.set_cons_succ, true_or, or_true, and_self, Bool.false_eq_true, Nat.le_refl, Option.bind_some, Option.map_some, Option.getD_some, Option.isSome_some, List.map_cons, List.map_nil, List.cons_append, List.nil_append, List.append_nil, List.getElem?_cons_zero, List.getElem?_cons_succ, eq_self, Int.reduceLT, Int.reduceLE, Int.reduceNeg, Int.reduceEq, e6, e7, pl]
      exact hQ _ _ sp
    · rw [hm]
      rw [List.length_drop] at hj
      have q4 : ¬ (j : Int) < 0 := by omega
      have q5 : (f : Int) + (j : Int) + 1 = ((f + j + 1 : Nat) : Int) := by omega
      have q6 : (f : Int) ≤ ((f + j + 1 : Nat) : Int) := by omega
      have q7 : ((f + j + 1 : Nat) : Int) ≤ (s.size : Int) := by omega
      have hline : (s.extract f (f + j + 1)).data.toList = (s.data.toList.drop f).take j ++ [10] := by
        rw [extract_list, List.drop_take, show f + j + 1 - f = j + 1 by omega, List.take_add_one]
        have := (cutL_some hcut).1
        congr 1
        have h5 : (s.data.toList.drop f)[j]? = some 10 := by
          rw [this, List.getElem?_append_right (by rw [List.length_take]; omega)]
          have : ((s.data.toList.drop f).take j).length = j := by rw [List.length_take, List.length_drop]; omega
          rw [this, Nat.sub_self]; rfl
        rw [h5]; rfl
      simp (disch := omega) only [VW, VY, VZ, VA, VB, VC, VE, TY, ↓reduceIte, Nat.reduceEqDiff, Nat.reduceAdd, Nat.reduceMul, Nat.reduceSub, Nat.reduceLeDiff, List.length_cons, List.length_nil, List.length_append, List.append_assoc, List.take_succ_cons, List.take_zero, List.drop_succ_cons, List.drop_zero, List.set_cons_zero, List.set_cons_succ, true_or, or_true, and_self, Bool.false_eq_true, Nat.le_refl, Option.bind_some, Option.map_some, Option.getD_some, Option.isSome_some, List.map_cons, List.map_nil, List.cons_append, List.nil_append, List.append_nil, List.getElem?_cons_zero, List.getElem?_cons_succ, eq_self, Int.reduceLT, Int.reduceLE, Int.reduceNeg, Int.reduceEq, e0, e7, q4, q5, q6, q7, wrap_in]
      refine .inl ⟨by kernel_rfl, ?_⟩; refine split_c (c := 58) (by rw [ByteArray.size_extract]; omega) fun w h2 E2 rw' => ?_
      rw [hline] at rw'
      have sp := sp.mono E2
      have lenw := rw'.isRow.len Tryz.prog
      rw [List.length_map] at lenw
      have hpe := parse_eq (k + D.length) ((s.data.toList.drop f).take j)
      have bad : parseI (k + D.length) ((s.data.toList.drop f).take j ++ [10]) = none → (readM k s.data.toList) = (D, f) := fun hb => by
        rw [hpe] at hb
        rw [readM_bad hcut hb] at hR
        simpa using hR
      simp (disch := omega) only [VW, VY, VZ, VA, VB, VC, VE, TY, ↓reduceIte, Nat.reduceEqDiff, Nat.reduceAdd, Nat.reduceMul, Nat.reduceSub, Nat.reduceLeDiff, List.length_cons, List.length_nil, List.length_append, List.append_assoc, List.take_succ_cons, List.take_zero, List.drop_succ_cons, List.drop_zero, List.set_cons_zero, List.set_cons_succ, true_or, or_true, and_self, Bool.false_eq_true, Nat.le_refl, Option.bind_some, Option.map_some, Option.getD_some, Option.isSome_some, List.map_cons, List.map_nil, List.cons_append, List.nil_append, List.append_nil, List.getElem?_cons_zero, List.getElem?_cons_succ, eq_self, Int.reduceLT, Int.reduceLE, Int.reduceNeg, Int.reduceEq, lenw]
      by_cases h4 : (splitL 58 ((s.data.toList.drop f).take j ++ [10])).length = 4
      · have h4' : ((splitL 58 ((s.data.toList.drop f).take j ++ [10])).length : Int) = 4 := by omega
        obtain ⟨a, p, c, d, hsp⟩ := len_four h4
        have hpp := parseI_four (k := k + D.length) hsp
        have ix := rw'.isRow.ix Tryz.prog
        rw [hsp] at rw' ix
        obtain ⟨x1, z1⟩ := row_str rw' (i := 1) (x := bL p) rfl
        obtain ⟨x2, z2⟩ := row_str rw' (i := 2) (x := bL c) rfl
        simp only [List.map_cons, List.map_nil, List.length_cons, List.length_nil] at ix
        have t1 : Int.toNat 1 = 1 := rfl
        have t2 : Int.toNat 2 = 2 := rfl
        simp (disch := omega) only [VW, VY, VZ, VA, VB, VC, VE, TY, ↓reduceIte, Nat.reduceEqDiff, Nat.reduceAdd, Nat.reduceMul, Nat.reduceSub, Nat.reduceLeDiff, List.length_cons, List.length_nil, List.length_append, List.append_assoc, List.take_succ_cons, List.take_zero, List.drop_succ_cons, List.drop_zero, List.set_cons_zero, List.set_cons_succ, true_or, or_true, and_self, Bool.false_eq_true, Nat.le_refl, Option.bind_some, Option.map_some, Option.getD_some, Option.isSome_some, List.map_cons, List.map_nil, List.cons_append, List.nil_append, List.append_nil, List.getElem?_cons_zero, List.getElem?_cons_succ, eq_self, Int.reduceLT, Int.reduceLE, Int.reduceNeg, Int.reduceEq, h4', ix, x2, t2]
        by_cases hc1 : c.length = 1
        · have hc1' : ((bL c).size : Int) = 1 := by rw [bL_size]; omega
          obtain ⟨c0, hc0⟩ : ∃ c0, c = [c0] := by
            match c, hc1 with
            | [c0], _ => exact ⟨c0, rfl⟩
          subst hc0
          rw [if_pos hc1] at hpp
          have f1 : bL [c0] = ⟨#[c0]⟩ := rfl
          have f2 : (⟨#[102, 104, 111]⟩ : ByteArray) = fho := rfl
          have kix := kind_index c0
          have kin := kindL_in [c0]
          have kin' := kin
          unfold inI64 at kin'
          simp (disch := omega) only [VW, VY, VZ, VA, VB, VC, VE, TY, ↓reduceIte, Nat.reduceEqDiff, Nat.reduceAdd, Nat.reduceMul, Nat.reduceSub, Nat.reduceLeDiff, List.length_cons, List.length_nil, List.length_append, List.append_assoc, List.take_succ_cons, List.take_zero, List.drop_succ_cons, List.drop_zero, List.set_cons_zero, List.set_cons_succ, true_or, or_true, and_self, Bool.false_eq_true, Nat.le_refl, Option.bind_some, Option.map_some, Option.getD_some, Option.isSome_some, List.map_cons, List.map_nil, List.cons_append, List.nil_append, List.append_nil, List.getElem?_cons_zero, List.getElem?_cons_succ, eq_self, Int.reduceLT, Int.reduceLE, Int.reduceNeg, Int.reduceEq, hc1']
          have EA := Ext.one h2 (some ⟨[.string ⟨#[]⟩, .int .i64 0], 26, false, true⟩)
          have EB := Ext.one h2 (some ⟨[.string (bL p), .int .i64 (kindL [c0])], 26, false, true⟩)
          have ya1 := EA.keepC x1
          have ya2 := EA.keepC x2
          have yb1 := EB.keepC x1
          have yb2 := EB.keepC x2
          rw [f1] at ya2 yb2
          have x2' := x2
          rw [f1] at x2'
          have spm := sp.newBlk [.string (bL p), .int .i64 (kindL [c0])] 26 true
          have gm := spm.rdAll (n := 2) rfl
          have qk : (k : Int) + (D.length : Int) = ((k + D.length : Nat) : Int) := by omega
          have hz := lineB_size (n := k + D.length) ⟨bL p, kindL [c0]⟩ (by omega)
          have ex : s.extract f (f + j + 1) = bL ((s.data.toList.drop f).take j ++ [10]) := bytes_inj hline
          refine draw_tail [0, 1, 2, 3, 4, 5] [6, 7, 8, 9, 10] (by kernel_rfl) (by simp only [List.filterMap_cons, List.filterMap_nil, List.getElem?_cons_zero, List.getElem?_cons_succ]; rfl) ?_
          simp (disch := omega) only [VW, VY, VZ, VA, VB, VC, VE, TY, ↓reduceIte, Nat.reduceEqDiff, Nat.reduceAdd, Nat.reduceMul, Nat.reduceSub, Nat.reduceLeDiff, List.length_cons, List.length_nil, List.length_append, List.append_assoc, List.take_succ_cons, List.take_zero, List.drop_succ_cons, List.drop_zero, List.set_cons_zero, List.set_cons_succ, true_or, or_true, and_self, Bool.false_eq_true, Nat.le_refl, Option.bind_some, Option.map_some, Option.getD_some, Option.isSome_some, List.map_cons, List.map_nil, List.cons_append, List.nil_append, List.append_nil, List.getElem?_cons_zero, List.getElem?_cons_succ, eq_self, Int.reduceLT, Int.reduceLE, Int.reduceNeg, Int.reduceEq, ix, x1, x2, t1, t2]
          refine tail_step [(6, [7, 8], [9, 10], false), (9, [], [6, 7, 8, 10], false)] (by kernel_rfl) (by kernel_rfl) (a_cons (by simp only [List.filterMap_cons, List.filterMap_nil, List.getElem?_cons_zero, List.getElem?_cons_succ]; rfl) (by kernel_rfl) ?_ (a_cons (by simp only [List.filterMap_cons, List.filterMap_nil, List.getElem?_cons_zero, List.getElem?_cons_succ]; rfl) (by kernel_rfl) ?_ trivial))
          focus
            simp (disch := omega) only [VW, VY, VZ, VA, VB, VC, VE, TY, ↓reduceIte, Nat.reduceEqDiff, Nat.reduceAdd, Nat.reduceMul, Nat.reduceSub, Nat.reduceLeDiff, List.length_cons, List.length_nil, List.length_append, List.append_assoc, List.take_succ_cons, List.take_zero, List.drop_succ_cons, List.drop_zero, List.set_cons_zero, List.set_cons_succ, true_or, or_true, and_self, Bool.false_eq_true, Nat.le_refl, Option.bind_some, Option.map_some, Option.getD_some, Option.isSome_some, List.map_cons, List.map_nil, List.cons_append, List.nil_append, List.append_nil, List.getElem?_cons_zero, List.getElem?_cons_succ, eq_self, Int.reduceLT, Int.reduceLE, Int.reduceNeg, Int.reduceEq, f1, f2]
            refine .inl ⟨by kernel_rfl, ?_⟩; refine index_c ?_
            simp (disch := omega) only [VW, VY, VZ, VA, VB, VC, VE, TY, ↓reduceIte, Nat.reduceEqDiff, Nat.reduceAdd, Nat.reduceMul, Nat.reduceSub, Nat.reduceLeDiff, List.length_cons, List.length_nil, List.length_append, List.append_assoc, List.take_succ_cons, List.take_zero, List.drop_succ_cons, List.drop_zero, List.set_cons_zero, List.set_cons_succ, true_or, or_true, and_self, Bool.false_eq_true, Nat.le_refl, Option.bind_some, Option.map_some, Option.getD_some, Option.isSome_some, List.map_cons, List.map_nil, List.cons_append, List.nil_append, List.append_nil, List.getElem?_cons_zero, List.getElem?_cons_succ, eq_self, Int.reduceLT, Int.reduceLE, Int.reduceNeg, Int.reduceEq, x1, x2', kix, wrap_in]
            refine tail_step [(9, [], [10], false)] (by kernel_rfl) (by kernel_rfl) (a_cons (by simp only [List.filterMap_cons, List.filterMap_nil, List.getElem?_cons_zero, List.getElem?_cons_succ]; rfl) (by kernel_rfl) ?_ trivial)
            simp (disch := omega) only [VW, VY, VZ, VA, VB, VC, VE, TY, ↓reduceIte, Nat.reduceEqDiff, Nat.reduceAdd, Nat.reduceMul, Nat.reduceSub, Nat.reduceLeDiff, List.length_cons, List.length_nil, List.length_append, List.append_assoc, List.take_succ_cons, List.take_zero, List.drop_succ_cons, List.drop_zero, List.set_cons_zero, List.set_cons_succ, true_or, or_true, and_self, Bool.false_eq_true, Nat.le_refl, Option.bind_some, Option.map_some, Option.getD_some, Option.isSome_some, List.map_cons, List.map_nil, List.cons_append, List.nil_append, List.append_nil, List.getElem?_cons_zero, List.getElem?_cons_succ, eq_self, Int.reduceLT, Int.reduceLE, Int.reduceNeg, Int.reduceEq, ya1, ya2]
            refine tail_step [(10, [], [], true)] (by kernel_rfl) (by kernel_rfl) (a_cut (by simp only [List.filterMap_cons, List.filterMap_nil, List.getElem?_cons_zero, List.getElem?_cons_succ]; rfl) (by kernel_rfl) ?_ trivial)
            simp (disch := omega) only [VW, VY, VZ, VA, VB, VC, VE, TY, ↓reduceIte, Nat.reduceEqDiff, Nat.reduceAdd, Nat.reduceMul, Nat.reduceSub, Nat.reduceLeDiff, List.length_cons, List.length_nil, List.length_append, List.append_assoc, List.take_succ_cons, List.take_zero, List.drop_succ_cons, List.drop_zero, List.set_cons_zero, List.set_cons_succ, true_or, or_true, and_self, Bool.false_eq_true, Nat.le_refl, Option.bind_some, Option.map_some, Option.getD_some, Option.isSome_some, List.map_cons, List.map_nil, List.cons_append, List.nil_append, List.append_nil, List.getElem?_cons_zero, List.getElem?_cons_succ, eq_self, Int.reduceLT, Int.reduceLE, Int.reduceNeg, Int.reduceEq, ya1, ya2, yb1, yb2]
          rotate_left
          focus
            simp (disch := omega) only [VW, VY, VZ, VA, VB, VC, VE, TY, ↓reduceIte, Nat.reduceEqDiff, Nat.reduceAdd, Nat.reduceMul, Nat.reduceSub, Nat.reduceLeDiff, List.length_cons, List.length_nil, List.length_append, List.append_assoc, List.take_succ_cons, List.take_zero, List.drop_succ_cons, List.drop_zero, List.set_cons_zero, List.set_cons_succ, true_or, or_true, and_self, Bool.false_eq_true, Nat.le_refl, Option.bind_some, Option.map_some, Option.getD_some, Option.isSome_some, List.map_cons, List.map_nil, List.cons_append, List.nil_append, List.append_nil, List.getElem?_cons_zero, List.getElem?_cons_succ, eq_self, Int.reduceLT, Int.reduceLE, Int.reduceNeg, Int.reduceEq, f1, f2, ya1, ya2]
            refine tail_step [(6, [7, 8], [10], false)] (by kernel_rfl) (by kernel_rfl) (a_cons (by simp only [List.filterMap_cons, List.filterMap_nil, List.getElem?_cons_zero, List.getElem?_cons_succ]; rfl) (by kernel_rfl) ?_ trivial)
            simp (disch := omega) only [VW, VY, VZ, VA, VB, VC, VE, TY, ↓reduceIte, Nat.reduceEqDiff, Nat.reduceAdd, Nat.reduceMul, Nat.reduceSub, Nat.reduceLeDiff, List.length_cons, List.length_nil, List.length_append, List.append_assoc, List.take_succ_cons, List.take_zero, List.drop_succ_cons, List.drop_zero, List.set_cons_zero, List.set_cons_succ, true_or, or_true, and_self, Bool.false_eq_true, Nat.le_refl, Option.bind_some, Option.map_some, Option.getD_some, Option.isSome_some, List.map_cons, List.map_nil, List.cons_append, List.nil_append, List.append_nil, List.getElem?_cons_zero, List.getElem?_cons_succ, eq_self, Int.reduceLT, Int.reduceLE, Int.reduceNeg, Int.reduceEq, f1, f2]
            refine .inl ⟨by kernel_rfl, ?_⟩; refine index_c ?_
            simp (disch := omega) only [VW, VY, VZ, VA, VB, VC, VE, TY, ↓reduceIte, Nat.reduceEqDiff, Nat.reduceAdd, Nat.reduceMul, Nat.reduceSub, Nat.reduceLeDiff, List.length_cons, List.length_nil, List.length_append, List.append_assoc, List.take_succ_cons, List.take_zero, List.drop_succ_cons, List.drop_zero, List.set_cons_zero, List.set_cons_succ, true_or, or_true, and_self, Bool.false_eq_true, Nat.le_refl, Option.bind_some, Option.map_some, Option.getD_some, Option.isSome_some, List.map_cons, List.map_nil, List.cons_append, List.nil_append, List.append_nil, List.getElem?_cons_zero, List.getElem?_cons_succ, eq_self, Int.reduceLT, Int.reduceLE, Int.reduceNeg, Int.reduceEq, ya1, ya2, kix, wrap_in]
            refine tail_step [(10, [], [], true)] (by kernel_rfl) (by kernel_rfl) (a_cut (by simp only [List.filterMap_cons, List.filterMap_nil, List.getElem?_cons_zero, List.getElem?_cons_succ]; rfl) (by kernel_rfl) ?_ trivial)
            simp (disch := omega) only [VW, VY, VZ, VA, VB, VC, VE, TY, ↓reduceIte, Nat.reduceEqDiff, Nat.reduceAdd, Nat.reduceMul, Nat.reduceSub, Nat.reduceLeDiff, List.length_cons, List.length_nil, List.length_append, List.append_assoc, List.take_succ_cons, List.take_zero, List.drop_succ_cons, List.drop_zero, List.set_cons_zero, List.set_cons_succ, true_or, or_true, and_self, Bool.false_eq_true, Nat.le_refl, Option.bind_some, Option.map_some, Option.getD_some, Option.isSome_some, List.map_cons, List.map_nil, List.cons_append, List.nil_append, List.append_nil, List.getElem?_cons_zero, List.getElem?_cons_succ, eq_self, Int.reduceLT, Int.reduceLE, Int.reduceNeg, Int.reduceEq, ya1, ya2, yb1, yb2]
          all_goals
            refine .inl ⟨by kernel_rfl, ?_⟩; refine isPathMark_c (m := ⟨bL p, kindL [c0]⟩) kin z1 fun h3 E3 => ?_
            have spm := spm.mono E3
            have gm := spm.rdAll (n := 2) rfl
            cases hmk : markM ⟨bL p, kindL [c0]⟩ with
            | false =>
              have hb := bad (by rw [hpp, hmk]; simp)
              rw [hb] at hQ
              dsimp only at hQ
              simp (disch := omega) only [VW, VY, VZ, VA, VB, VC, VE, TY, ↓reduceIte, Nat.reduceEqDiff, Nat.reduceAdd, Nat.reduceMul, Nat.reduceSub, Nat.reduceLeDiff, List.length_cons, List.length_nil, List.length_append, List.append_assoc, List.take_succ_cons, List.take_zero, List.drop_succ_cons, List.drop_zero, List.set_cons_zero, List.set_cons_succ, true_or, or_true, and_self, Bool.false_eq_true, Nat.le_refl, Option.bind_some, Option.map_some, Option.getD_some, Option.isSome_some, List.map_cons, List.map_nil, List.cons_append, List.nil_append, List.append_nil, List.getElem?_cons_zero, List.getElem?_cons_succ, eq_self, Int.reduceLT, Int.reduceLE, Int.reduceNeg, Int.reduceEq, e6, e7, pl]
              exact hQ _ _ spm.tail
            | true =>
              have kk : 1 ≤ kindL [c0] ∧ kindL [c0] ≤ 3 := by unfold markM at hmk; simp at hmk; exact hmk.2
              have hm8 : (bL p).size ≤ 8 := by unfold markM pathM at hmk; simp at hmk; rw [bL_size] at hmk ⊢; omega
              simp (disch := omega) only [VW, VY, VZ, VA, VB, VC, VE, TY, ↓reduceIte, Nat.reduceEqDiff, Nat.reduceAdd, Nat.reduceMul, Nat.reduceSub, Nat.reduceLeDiff, List.length_cons, List.length_nil, List.length_append, List.append_assoc, List.take_succ_cons, List.take_zero, List.drop_succ_cons, List.drop_zero, List.set_cons_zero, List.set_cons_succ, true_or, or_true, and_self, Bool.false_eq_true, Nat.le_refl, Option.bind_some, Option.map_some, Option.getD_some, Option.isSome_some, List.map_cons, List.map_nil, List.cons_append, List.nil_append, List.append_nil, List.getElem?_cons_zero, List.getElem?_cons_succ, eq_self, Int.reduceLT, Int.reduceLE, Int.reduceNeg, Int.reduceEq, e1, e6, len, gm, wrap_in, qk]
              refine .inl ⟨by kernel_rfl, ?_⟩; refine lineOfMark_c (n := k + D.length) (m := ⟨bL p, kindL [c0]⟩) (by omega) kk (show (bL p).size ≤ 1000000000 by omega) fun h4 E4 => ?_
              have spm := spm.mono E4
              have gm := spm.rdAll (n := 2) rfl
              by_cases hle : lineB (k + D.length) ⟨bL p, kindL [c0]⟩ = bL ((s.data.toList.drop f).take j ++ [10])
              · have hps : parseS (k + D.length) ((s.data.toList.drop f).take j) = some ⟨bL p, kindL [c0]⟩ := by
                  rw [← hpe, hpp, hmk, if_pos ⟨rfl, hle⟩]
                rw [readM_some h40 hcut hps] at hR
                have spm := spm.tail.rep0 (rep_Mk (x := ⟨bL p, kindL [c0]⟩) z1 kin)
                simp (disch := omega) only [VW, VY, VZ, VA, VB, VC, VE, TY, ↓reduceIte, Nat.reduceEqDiff, Nat.reduceAdd, Nat.reduceMul, Nat.reduceSub, Nat.reduceLeDiff, List.length_cons, List.length_nil, List.length_append, List.append_assoc, List.take_succ_cons, List.take_zero, List.drop_succ_cons, List.drop_zero, List.set_cons_zero, List.set_cons_succ, true_or, or_true, and_self, Bool.false_eq_true, Nat.le_refl, Option.bind_some, Option.map_some, Option.getD_some, Option.isSome_some, List.map_cons, List.map_nil, List.cons_append, List.nil_append, List.append_nil, List.getElem?_cons_zero, List.getElem?_cons_succ, eq_self, Int.reduceLT, Int.reduceLE, Int.reduceNeg, Int.reduceEq, hle, ex, e6, gm]
                refine sep_append (Sep.swap spm) rfl rfl te31 tk26 rfl (by decide) (by simp only []; omega) fun v5 h5 sp => ?_
                simp (disch := omega) only [VW, VY, VZ, VA, VB, VC, VE, TY, ↓reduceIte, Nat.reduceEqDiff, Nat.reduceAdd, Nat.reduceMul, Nat.reduceSub, Nat.reduceLeDiff, List.length_cons, List.length_nil, List.length_append, List.append_assoc, List.take_succ_cons, List.take_zero, List.drop_succ_cons, List.drop_zero, List.set_cons_zero, List.set_cons_succ, true_or, or_true, and_self, Bool.false_eq_true, Nat.le_refl, Option.bind_some, Option.map_some, Option.getD_some, Option.isSome_some, List.map_cons, List.map_nil, List.cons_append, List.nil_append, List.append_nil, List.getElem?_cons_zero, List.getElem?_cons_succ, eq_self, Int.reduceLT, Int.reduceLE, Int.reduceNeg, Int.reduceEq, e0, e1, e7, wrap_in]
                refine ⟨_, by omega, f + j + 1, v5, D ++ [⟨bL p, kindL [c0]⟩], rfl, by simp; omega, by omega, by rw [List.length_append]; simp only [List.length_cons, List.length_nil]; omega, ?_, rfl, sp⟩
                rw [hR]
                have hlen : k + (D ++ [(⟨bL p, kindL [c0]⟩ : Mk)]).length = k + D.length + 1 := by rw [List.length_append]; simp only [List.length_cons, List.length_nil]; omega
                have e2 : ((s.data.toList.drop f).take j).length = j := by rw [List.length_take, List.length_drop]; omega
                rw [hlen, List.drop_drop, show f + (j + 1) = f + j + 1 by omega, e2]
                simp only [List.append_assoc, List.cons_append, List.nil_append, Prod.mk.injEq, true_and]
                omega
              · have hb := bad (by rw [hpp, hmk, if_neg (fun x => hle x.2)])
                rw [hb] at hQ
                dsimp only at hQ
                simp (disch := omega) only [VW, VY, VZ, VA, VB, VC, VE, TY, ↓reduceIte, Nat.reduceEqDiff, Nat.reduceAdd, Nat.reduceMul, Nat.reduceSub, Nat.reduceLeDiff, List.length_cons, List.length_nil, List.length_append, List.append_assoc, List.take_succ_cons, List.take_zero, List.drop_succ_cons, List.drop_zero, List.set_cons_zero, List.set_cons_succ, true_or, or_true, and_self, Bool.false_eq_true, Nat.le_refl, Option.bind_some, Option.map_some, Option.getD_some, Option.isSome_some, List.map_cons, List.map_nil, List.cons_append, List.nil_append, List.append_nil, List.getElem?_cons_zero, List.getElem?_cons_succ, eq_self, Int.reduceLT, Int.reduceLE, Int.reduceNeg, Int.reduceEq, hle, ex, e6, e7, pl]
                exact hQ _ _ spm.tail
        · have hc1' : ¬ ((bL c).size : Int) = 1 := by rw [bL_size]; omega
          have hb := bad (by rw [hpp, if_neg hc1])
          rw [hb] at hQ
          dsimp only at hQ
          simp (disch := omega) only [VW, VY, VZ, VA, VB, VC, VE, TY, ↓reduceIte, Nat.reduceEqDiff, Nat.reduceAdd, Nat.reduceMul, Nat.reduceSub, Nat.reduceLeDiff, List.length_cons, List.length_nil, List.length_append, List.append_assoc, List.take_succ_cons, List.take_zero, List.drop_succ_cons, List.drop_zero, List.set_cons_zero, List.set_cons_succ, true_or, or_true, and_self, Bool.false_eq_true, Nat.le_refl, Option.bind_some, Option.map_some, Option.getD_some, Option.isSome_some, List.map_cons, List.map_nil, List.cons_append, List.nil_append, List.append_nil, List.getElem?_cons_zero, List.getElem?_cons_succ, eq_self, Int.reduceLT, Int.reduceLE, Int.reduceNeg, Int.reduceEq, hc1', e6, e7, pl]
          exact hQ _ _ sp
      · have h4' : ¬ ((splitL 58 ((s.data.toList.drop f).take j ++ [10])).length : Int) = 4 := by omega
        have hb := bad (parseI_none h4)
        rw [hb] at hQ
        dsimp only at hQ
        simp (disch := omega) only [VW, VY, VZ, VA, VB, VC, VE, TY, ↓reduceIte, Nat.reduceEqDiff, Nat.reduceAdd, Nat.reduceMul, Nat.reduceSub, Nat.reduceLeDiff, List.length_cons, List.length_nil, List.length_append, List.append_assoc, List.take_succ_cons, List.take_zero, List.drop_succ_cons, List.drop_zero, List.set_cons_zero, List.set_cons_succ, true_or, or_true, and_self, Bool.false_eq_true, Nat.le_refl, Option.bind_some, Option.map_some, Option.getD_some, Option.isSome_some, List.map_cons, List.map_nil, List.cons_append, List.nil_append, List.append_nil, List.getElem?_cons_zero, List.getElem?_cons_succ, eq_self, Int.reduceLT, Int.reduceLE, Int.reduceNeg, Int.reduceEq, h4', e6, e7, pl]
        exact hQ _ _ sp
  · have q2 : ¬ (k : Int) + (D.length : Int) < 40 := by omega
    rw [readM_stop h40] at hR
    simp only [List.append_nil, Nat.add_zero] at hR
    rw [hR] at hQ
    dsimp only at hQ
    simp (disch := omega) only [VW, VY, VZ, VA, VB, VC, VE, TY, ↓reduceIte, Nat.reduceEqDiff, Nat.reduceAdd, Nat.reduceMul, Nat.reduceSub, Nat.reduceLeDiff, List.length_cons, List.length_nil, List.length_append, List.append_assoc, List.take_succ_cons, List.take_zero, List.drop_succ_cons, List.drop_zero, List.set_cons_zero, List.set_cons_succ, true_or, or_true, and_self, Bool.false_eq_true, Nat.le_refl, Option.bind_some, Option.map_some, Option.getD_some, Option.isSome_some, List.map_cons, List.map_nil, List.cons_append, List.nil_append, List.append_nil, List.getElem?_cons_zero, List.getElem?_cons_succ, eq_self, Int.reduceLT, Int.reduceLE, Int.reduceNeg, Int.reduceEq, q2, e6, e7, pl]
    exact hQ _ _ sp
end Go.Proofs

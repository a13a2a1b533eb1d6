/- Contracts of functions, facts of types, or the plain law behind one statement (own work): JR. Conditions: those told in each theorem. -/
import Derived.Test.YtkapgaajomaheaaGreatDoorS4
set_option linter.all false
set_option linter.unusedSimpArgs false
set_option linter.unusedVariables false
set_option maxRecDepth 4000
namespace Go.Proofs
open Go Go.V
def markOf (o : Option Mk) : Mk := o.getD ⟨⟨#[]⟩, 0⟩
/-- The kind that the letters before place k tell. -/
def kindU (c : List UInt8) (k : Nat) : Int := if 1 < k ∧ c = [102] then 1 else if 2 < k ∧ c = [104] then 2 else if 3 < k ∧ c = [111] then 3 else 0
theorem kindU_end (c : List UInt8) : kindU c 4 = kindL c := by
  unfold kindU kindL; simp
theorem fho1 : fho.extract 0 1 = bL [102] := by decide
theorem fho2 : fho.extract 1 2 = bL [104] := by decide
theorem fho3 : fho.extract 2 3 = bL [111] := by decide
theorem bL_inj {a b : List UInt8} : bL a = bL b ↔ a = b := by
  constructor
  · intro h
    exact congrArg (fun x : ByteArray => x.data.toList) h
  · rintro rfl; rfl
theorem kindU_step {c : List UInt8} {k : Nat} (h1 : 1 ≤ k) (h3 : k ≤ 3) : kindU c (k + 1) = if bL c = fho.extract (k - 1) k then (k : Int) else kindU c k := by
  have : k = 1 ∨ k = 2 ∨ k = 3 := by omega
  rcases this with rfl | rfl | rfl
  · show kindU c 2 = if bL c = fho.extract 0 1 then ((1 : Nat) : Int) else kindU c 1
    simp only [fho1, bL_inj]
    unfold kindU; by_cases h : c = [102] <;> simp [h]
  · show kindU c 3 = if bL c = fho.extract 1 2 then ((2 : Nat) : Int) else kindU c 2
    simp only [fho2, bL_inj]
    unfold kindU
    by_cases h : c = [104]
    · subst h; simp
    · simp [h]
  · show kindU c 4 = if bL c = fho.extract 2 3 then ((3 : Nat) : Int) else kindU c 3
    simp only [fho3, bL_inj]
    unfold kindU
    by_cases h : c = [111]
    · subst h; simp
    · simp [h]
theorem kindL_in (c : List UInt8) : inI64 (kindL c) := by
  unfold kindL inI64
  split
  · decide
  · split
    · decide
    · split <;> decide
theorem kind_index (c : UInt8) : 1 + Lib.indexByte fho.data.toList c = kindL [c] := by
  unfold fho kindL
  simp only [Lib.indexByte, List.cons.injEq, and_true]
  by_cases h1 : c = 102
  · subst h1; decide
  · by_cases h2 : c = 104
    · subst h2; decide
    · by_cases h3 : c = 111
      · subst h3; decide
      · have e1 : ((102 : UInt8) == c) = false := by simpa using fun h => h1 h.symm
        have e2 : ((104 : UInt8) == c) = false := by simpa using fun h => h2 h.symm
        have e3 : ((111 : UInt8) == c) = false := by simpa using fun h => h3 h.symm
        simp [e1, e2, e3, h1, h2, h3]
theorem parseS_none {k : Nat} {s : List UInt8} (h : (splitL 58 s).length ≠ 4) : parseS k s = none := by
  unfold parseS
  split
  · rename_i h'; rw [h'] at h; simp at h
  · rfl
theorem parseS_four {k : Nat} {s a p c d : List UInt8} (h : splitL 58 s = [a, p, c, d]) : parseS k s = if markM ⟨bL p, kindL c⟩ = true ∧ lineB k ⟨bL p, kindL c⟩ = bL (s ++ [10]) then some ⟨bL p, kindL c⟩ else none := by
  unfold parseS; rw [h]
theorem parseI_none {k : Nat} {s : List UInt8} (h : (splitL 58 s).length ≠ 4) : parseI k s = none := by
  unfold parseI
  split
  · rename_i h'; rw [h'] at h; simp at h
  · rfl
theorem parseI_four {k : Nat} {s a p c d : List UInt8} (h : splitL 58 s = [a, p, c, d]) : parseI k s = if c.length = 1 then (if markM ⟨bL p, kindL c⟩ = true ∧ lineB k ⟨bL p, kindL c⟩ = bL s then some ⟨bL p, kindL c⟩ else none) else none := by
  unfold parseI; rw [h]
theorem len_four {α : Type} {l : List α} (h : l.length = 4) : ∃ a b c d, l = [a, b, c, d] := by
  match l, h with
  | [a, b, c, d], _ => exact ⟨a, b, c, d, rfl⟩

theorem jrRead_c {s : ByteArray} {k : Nat} {h : Heap} {Q : Value → Heap → Prop} (hs : s.size ≤ 1000000) (hk : k ≤ 60000)
    (hQ : ∀ h', Ext h h' → Q (.tuple #[.agg #[.string (markOf (parseS k s.data.toList)).path, .int .i64 (markOf (parseS k s.data.toList)).kind], .bool (parseS k s.data.toList).isSome]) h') :
    CallsV Tryz.prog 63 [.string s, .int .i64 k] h Q := by
  refine CallsV.start Tryz.func63 rfl (by rw [Tryz.results63]) (by kernel_rfl) (by rw [Tryz.ntmps63]; simp) ?_
  have hl := str_len s
  have s4 := Sep.blk1 h [.string ⟨#[]⟩, .int .i64 0] 26 true
  simp (disch := omega) only [VW, VY, VZ, VA, VB, VC, VE, TY, ↓reduceIte, Nat.reduceEqDiff, Nat.reduceAdd, Nat.reduceMul, Nat.reduceSub, Nat.reduceLeDiff, List.length_cons, List.length_nil, List.length_append, List.append_assoc, List.take_succ_cons, List.take_zero, List.drop_succ_cons, List.drop_zero, List.set_cons_zero, List.set_cons_succ, true_or, or_true, and_self, Bool.false_eq_true, Nat.le_refl, Option.bind_some, Option.map_some, Option.getD_some, Option.isSome_some, List.map_cons, List.map_nil, List.cons_append, List.nil_append, List.append_nil, List.getElem?_cons_zero, List.getElem?_cons_succ, eq_self, Int.reduceLT, Int.reduceLE, Int.reduceNeg, Int.reduceEq]
  refine .inl ⟨by kernel_rfl, ?_⟩; refine l1Split_c (c := 58) hs fun w h1 E1 rw => ?_
  have s4 := s4.mono E1
  have len := rw.isRow.len Tryz.prog
  rw [List.length_map] at len
  simp (disch := omega) only [VW, VY, VZ, VA, VB, VC, VE, TY, ↓reduceIte, Nat.reduceEqDiff, Nat.reduceAdd, Nat.reduceMul, Nat.reduceSub, Nat.reduceLeDiff, List.length_cons, List.length_nil, List.length_append, List.append_assoc, List.take_succ_cons, List.take_zero, List.drop_succ_cons, List.drop_zero, List.set_cons_zero, List.set_cons_succ, true_or, or_true, and_self, Bool.false_eq_true, Nat.le_refl, Option.bind_some, Option.map_some, Option.getD_some, Option.isSome_some, List.map_cons, List.map_nil, List.cons_append, List.nil_append, List.append_nil, List.getElem?_cons_zero, List.getElem?_cons_succ, eq_self, Int.reduceLT, Int.reduceLE, Int.reduceNeg, Int.reduceEq, len]
  by_cases h4 : (splitL 58 s.data.toList).length = 4
  · have h4' : ((splitL 58 s.data.toList).length : Int) = 4 := by omega
    obtain ⟨a, p, c, d, hsp⟩ := len_four h4
    have hpp := parseS_four (k := k) hsp
    have ix := rw.isRow.ix Tryz.prog
    rw [hsp] at rw ix
    obtain ⟨x1, z1⟩ := row_str rw (i := 1) (x := bL p) rfl
    obtain ⟨x2, z2⟩ := row_str rw (i := 2) (x := bL c) rfl
    simp only [List.map_cons, List.map_nil, List.length_cons, List.length_nil] at ix
    have t1 : Int.toNat 1 = 1 := rfl
    have t2 : Int.toNat 2 = 2 := rfl
    simp (disch := omega) only [VW, VY, VZ, VA, VB, VC, VE, TY, ↓reduceIte, Nat.reduceEqDiff, Nat.reduceAdd, Nat.reduceMul, Nat.reduceSub, Nat.reduceLeDiff, List.length_cons, List.length_nil, List.length_append, List.append_assoc, List.take_succ_cons, List.take_zero, List.drop_succ_cons, List.drop_zero, List.set_cons_zero, List.set_cons_succ, true_or, or_true, and_self, Bool.false_eq_true, Nat.le_refl, Option.bind_some, Option.map_some, Option.getD_some, Option.isSome_some, List.map_cons, List.map_nil, List.cons_append, List.nil_append, List.append_nil, List.getElem?_cons_zero, List.getElem?_cons_succ, eq_self, Int.reduceLT, Int.reduceLE, Int.reduceNeg, Int.reduceEq, h4', ix, x1, t1]
    have s7 := Sep.blk1 h1 [.string (bL p), .int .i64 0] 26 true
    refine loop_rule (fun n e h' => ∃ (j : Nat), e 0 = .string s ∧ e 1 = .int .i64 k ∧ e 4 = .pointer (some ⟨h.length, 0, none⟩) ∧ e 6 = w ∧ e 7 = .pointer (some ⟨h1.length, 0, none⟩) ∧ e 8 = .int .i64 j ∧ 1 ≤ j ∧ j ≤ 4 ∧ n = 4 - j ∧ Sep h1 h' [blkA h1.length [.string (bL p), .int .i64 (kindU c j)] 26]) ?_ 3 _ _
      ⟨1, rfl, rfl, rfl, rfl, rfl, by rfl, by omega, by omega, rfl, s7⟩
    rintro n e h' ⟨j, e0, e1, e4, e6, e7, e8, hj1, hj4, rfl, s7⟩
    have g := s7.rd
    have x2' := s7.ext.keepC x2
    simp (disch := omega) only [VW, VY, VZ, VA, VB, VC, VE, TY, ↓reduceIte, Nat.reduceEqDiff, Nat.reduceAdd, Nat.reduceMul, Nat.reduceSub, Nat.reduceLeDiff, List.length_cons, List.length_nil, List.length_append, List.append_assoc, List.take_succ_cons, List.take_zero, List.drop_succ_cons, List.drop_zero, List.set_cons_zero, List.set_cons_succ, true_or, or_true, and_self, Bool.false_eq_true, Nat.le_refl, Option.bind_some, Option.map_some, Option.getD_some, Option.isSome_some, List.map_cons, List.map_nil, List.cons_append, List.nil_append, List.append_nil, List.getElem?_cons_zero, List.getElem?_cons_succ, eq_self, Int.reduceLT, Int.reduceLE, Int.reduceNeg, Int.reduceEq, e8]
    by_cases hlt : j < 4
    · have q1 : (j : Int) ≤ 3 := by omega
      have f2 : (⟨#[102, 104, 111]⟩ : ByteArray) = fho := rfl
      have f3 : fho.size = 3 := rfl
      have k0 : (0 : Int) ≤ (j : Int) - 1 := by omega
      have k1 : (j : Int) - 1 ≤ (j : Int) := by omega
      have k2 : (j : Int) ≤ (3 : Nat) := by omega
      have k3 : ((j : Int) - 1).toNat = j - 1 := by omega
      have ks := kindU_step (c := c) hj1 (show j ≤ 3 by omega)
      simp (disch := omega) only [VW, VY, VZ, VA, VB, VC, VE, TY, ↓reduceIte, Nat.reduceEqDiff, Nat.reduceAdd, Nat.reduceMul, Nat.reduceSub, Nat.reduceLeDiff, List.length_cons, List.length_nil, List.length_append, List.append_assoc, List.take_succ_cons, List.take_zero, List.drop_succ_cons, List.drop_zero, List.set_cons_zero, List.set_cons_succ, true_or, or_true, and_self, Bool.false_eq_true, Nat.le_refl, Option.bind_some, Option.map_some, Option.getD_some, Option.isSome_some, List.map_cons, List.map_nil, List.cons_append, List.nil_append, List.append_nil, List.getElem?_cons_zero, List.getElem?_cons_succ, eq_self, Int.reduceLT, Int.reduceLE, Int.reduceNeg, Int.reduceEq, q1]
      refine draw_ord [0, 1, 2, 3, 4, 5, 6, 7] (by kernel_rfl) (by simp only [List.filterMap_cons, List.filterMap_nil, List.getElem?_cons_zero, List.getElem?_cons_succ]; rfl) ?_
      simp (disch := omega) only [VW, VY, VZ, VA, VB, VC, VE, TY, ↓reduceIte, Nat.reduceEqDiff, Nat.reduceAdd, Nat.reduceMul, Nat.reduceSub, Nat.reduceLeDiff, List.length_cons, List.length_nil, List.length_append, List.append_assoc, List.take_succ_cons, List.take_zero, List.drop_succ_cons, List.drop_zero, List.set_cons_zero, List.set_cons_succ, true_or, or_true, and_self, Bool.false_eq_true, Nat.le_refl, Option.bind_some, Option.map_some, Option.getD_some, Option.isSome_some, List.map_cons, List.map_nil, List.cons_append, List.nil_append, List.append_nil, List.getElem?_cons_zero, List.getElem?_cons_succ, eq_self, Int.reduceLT, Int.reduceLE, Int.reduceNeg, Int.reduceEq, e6, e8, ix, x2', t2, f2, f3, k0, k1, k2, k3, wrap_in]
      by_cases hc : bL c = fho.extract (j - 1) j
      · rw [if_pos hc] at ks
        simp (disch := omega) only [VW, VY, VZ, VA, VB, VC, VE, TY, ↓reduceIte, Nat.reduceEqDiff, Nat.reduceAdd, Nat.reduceMul, Nat.reduceSub, Nat.reduceLeDiff, List.length_cons, List.length_nil, List.length_append, List.append_assoc, List.take_succ_cons, List.take_zero, List.drop_succ_cons, List.drop_zero, List.set_cons_zero, List.set_cons_succ, true_or, or_true, and_self, Bool.false_eq_true, Nat.le_refl, Option.bind_some, Option.map_some, Option.getD_some, Option.isSome_some, List.map_cons, List.map_nil, List.cons_append, List.nil_append, List.append_nil, List.getElem?_cons_zero, List.getElem?_cons_succ, eq_self, Int.reduceLT, Int.reduceLE, Int.reduceNeg, Int.reduceEq, hc, e7, e8]
        refine sep_store s7 (by simp) fun h2 s7 => ?_
        have s7 := s7.as (ds := [.string (bL p), .int .i64 (kindU c (j + 1))]) (by rw [ks]; simp [t_put])
        simp (disch := omega) only [VW, VY, VZ, VA, VB, VC, VE, TY, ↓reduceIte, Nat.reduceEqDiff, Nat.reduceAdd, Nat.reduceMul, Nat.reduceSub, Nat.reduceLeDiff, List.length_cons, List.length_nil, List.length_append, List.append_assoc, List.take_succ_cons, List.take_zero, List.drop_succ_cons, List.drop_zero, List.set_cons_zero, List.set_cons_succ, true_or, or_true, and_self, Bool.false_eq_true, Nat.le_refl, Option.bind_some, Option.map_some, Option.getD_some, Option.isSome_some, List.map_cons, List.map_nil, List.cons_append, List.nil_append, List.append_nil, List.getElem?_cons_zero, List.getElem?_cons_succ, eq_self, Int.reduceLT, Int.reduceLE, Int.reduceNeg, Int.reduceEq, e0, e1, e4, e6, e7, e8, wrap_in]
        exact ⟨_, by omega, j + 1, by simp, by omega, by omega, rfl, s7⟩
      · rw [if_neg hc] at ks
        simp (disch := omega) only [VW, VY, VZ, VA, VB, VC, VE, TY, ↓reduceIte, Nat.reduceEqDiff, Nat.reduceAdd, Nat.reduceMul, Nat.reduceSub, Nat.reduceLeDiff, List.length_cons, List.length_nil, List.length_append, List.append_assoc, List.take_succ_cons, List.take_zero, List.drop_succ_cons, List.drop_zero, List.set_cons_zero, List.set_cons_succ, true_or, or_true, and_self, Bool.false_eq_true, Nat.le_refl, Option.bind_some, Option.map_some, Option.getD_some, Option.isSome_some, List.map_cons, List.map_nil, List.cons_append, List.nil_append, List.append_nil, List.getElem?_cons_zero, List.getElem?_cons_succ, eq_self, Int.reduceLT, Int.reduceLE, Int.reduceNeg, Int.reduceEq, hc, e0, e1, e4, e6, e7, e8, wrap_in]
        rw [← ks] at s7
        exact ⟨_, by omega, j + 1, by simp, by omega, by omega, rfl, s7⟩
    · obtain rfl : j = 4 := by omega
      have q1 : ¬ ((4 : Nat) : Int) ≤ 3 := by decide
      rw [kindU_end] at s7
      have g := s7.rd
      have ga := s7.rdAll (n := 2) rfl
      simp (disch := omega) only [VW, VY, VZ, VA, VB, VC, VE, TY, ↓reduceIte, Nat.reduceEqDiff, Nat.reduceAdd, Nat.reduceMul, Nat.reduceSub, Nat.reduceLeDiff, List.length_cons, List.length_nil, List.length_append, List.append_assoc, List.take_succ_cons, List.take_zero, List.drop_succ_cons, List.drop_zero, List.set_cons_zero, List.set_cons_succ, true_or, or_true, and_self, Bool.false_eq_true, Nat.le_refl, Option.bind_some, Option.map_some, Option.getD_some, Option.isSome_some, List.map_cons, List.map_nil, List.cons_append, List.nil_append, List.append_nil, List.getElem?_cons_zero, List.getElem?_cons_succ, eq_self, Int.reduceLT, Int.reduceLE, Int.reduceNeg, Int.reduceEq, q1, e7, ga]
      refine .inl ⟨by kernel_rfl, ?_⟩; refine jrMark_c (m := ⟨bL p, kindL c⟩) (kindL_in c) z1 fun h2 E2 => ?_
      have s7 := s7.mono E2
      have ga := s7.rdAll (n := 2) rfl
      have S := s4.add s7
      cases hm : markM ⟨bL p, kindL c⟩ with
      | false =>
        rw [hm] at hpp
        simp only [Bool.false_eq_true, false_and, if_false] at hpp
        rw [hpp] at hQ
        simp (disch := omega) only [VW, VY, VZ, VA, VB, VC, VE, TY, ↓reduceIte, Nat.reduceEqDiff, Nat.reduceAdd, Nat.reduceMul, Nat.reduceSub, Nat.reduceLeDiff, List.length_cons, List.length_nil, List.length_append, List.append_assoc, List.take_succ_cons, List.take_zero, List.drop_succ_cons, List.drop_zero, List.set_cons_zero, List.set_cons_succ, true_or, or_true, and_self, Bool.false_eq_true, Nat.le_refl, Option.bind_some, Option.map_some, Option.getD_some, Option.isSome_some, List.map_cons, List.map_nil, List.cons_append, List.nil_append, List.append_nil, List.getElem?_cons_zero, List.getElem?_cons_succ, eq_self, Int.reduceLT, Int.reduceLE, Int.reduceNeg, Int.reduceEq, e4]
        refine sep_store (S.pull 1 rfl) (by simp) fun h3 S => ?_
        have S := S.as (ds := [.string ⟨#[]⟩, .int .i64 0]) (by simp [t_put])
        have gb := S.rdAll (n := 2) rfl
        simp (disch := omega) only [VW, VY, VZ, VA, VB, VC, VE, TY, ↓reduceIte, Nat.reduceEqDiff, Nat.reduceAdd, Nat.reduceMul, Nat.reduceSub, Nat.reduceLeDiff, List.length_cons, List.length_nil, List.length_append, List.append_assoc, List.take_succ_cons, List.take_zero, List.drop_succ_cons, List.drop_zero, List.set_cons_zero, List.set_cons_succ, true_or, or_true, and_self, Bool.false_eq_true, Nat.le_refl, Option.bind_some, Option.map_some, Option.getD_some, Option.isSome_some, List.map_cons, List.map_nil, List.cons_append, List.nil_append, List.append_nil, List.getElem?_cons_zero, List.getElem?_cons_succ, eq_self, Int.reduceLT, Int.reduceLE, Int.reduceNeg, Int.reduceEq, e4, gb]
        exact hQ _ S.ext
      | true =>
        rw [hm] at hpp
        simp only [true_and] at hpp
        have kk : 1 ≤ kindL c ∧ kindL c ≤ 3 := by unfold markM at hm; simp at hm; exact hm.2
        have pz : (bL p).size ≤ 8 := by unfold markM pathM at hm; simp at hm; rw [bL_size]; rw [bL_size] at hm; omega
        have ls := lineB_size (n := k) ⟨bL p, kindL c⟩ hk
        have zs : (⟨#[10]⟩ : ByteArray).size = 1 := rfl
        have a1 := str_add s ⟨#[10]⟩ (by rw [zs]; omega)
        have ea : s ++ ⟨#[10]⟩ = bL (s.data.toList ++ [10]) := by rw [← bL_app]; rfl
        simp (disch := omega) only [VW, VY, VZ, VA, VB, VC, VE, TY, ↓reduceIte, Nat.reduceEqDiff, Nat.reduceAdd, Nat.reduceMul, Nat.reduceSub, Nat.reduceLeDiff, List.length_cons, List.length_nil, List.length_append, List.append_assoc, List.take_succ_cons, List.take_zero, List.drop_succ_cons, List.drop_zero, List.set_cons_zero, List.set_cons_succ, true_or, or_true, and_self, Bool.false_eq_true, Nat.le_refl, Option.bind_some, Option.map_some, Option.getD_some, Option.isSome_some, List.map_cons, List.map_nil, List.cons_append, List.nil_append, List.append_nil, List.getElem?_cons_zero, List.getElem?_cons_succ, eq_self, Int.reduceLT, Int.reduceLE, Int.reduceNeg, Int.reduceEq, e0, e1, e7, ga]
        refine .inl ⟨by kernel_rfl, ?_⟩; refine jrLine_c (n := k) (m := ⟨bL p, kindL c⟩) hk kk (show (bL p).size ≤ 1000000000 by omega) fun h3 E3 => ?_
        have S := S.mono E3
        have ga := S.rdAll (n := 2) rfl
        by_cases hc : lineB k ⟨bL p, kindL c⟩ = bL (s.data.toList ++ [10])
        · rw [if_pos hc] at hpp
          rw [hpp] at hQ
          simp (disch := omega) only [VW, VY, VZ, VA, VB, VC, VE, TY, ↓reduceIte, Nat.reduceEqDiff, Nat.reduceAdd, Nat.reduceMul, Nat.reduceSub, Nat.reduceLeDiff, List.length_cons, List.length_nil, List.length_append, List.append_assoc, List.take_succ_cons, List.take_zero, List.drop_succ_cons, List.drop_zero, List.set_cons_zero, List.set_cons_succ, true_or, or_true, and_self, Bool.false_eq_true, Nat.le_refl, Option.bind_some, Option.map_some, Option.getD_some, Option.isSome_some, List.map_cons, List.map_nil, List.cons_append, List.nil_append, List.append_nil, List.getElem?_cons_zero, List.getElem?_cons_succ, eq_self, Int.reduceLT, Int.reduceLE, Int.reduceNeg, Int.reduceEq, e0, a1, ea, hc, e4, e7, ga]
          refine sep_store (S.pull 1 rfl) (by simp) fun h3 S => ?_
          have S := S.as (ds := [.string (bL p), .int .i64 (kindL c)]) (by simp [t_put])
          have gb := S.rdAll (n := 2) rfl
          simp (disch := omega) only [VW, VY, VZ, VA, VB, VC, VE, TY, ↓reduceIte, Nat.reduceEqDiff, Nat.reduceAdd, Nat.reduceMul, Nat.reduceSub, Nat.reduceLeDiff, List.length_cons, List.length_nil, List.length_append, List.append_assoc, List.take_succ_cons, List.take_zero, List.drop_succ_cons, List.drop_zero, List.set_cons_zero, List.set_cons_succ, true_or, or_true, and_self, Bool.false_eq_true, Nat.le_refl, Option.bind_some, Option.map_some, Option.getD_some, Option.isSome_some, List.map_cons, List.map_nil, List.cons_append, List.nil_append, List.append_nil, List.getElem?_cons_zero, List.getElem?_cons_succ, eq_self, Int.reduceLT, Int.reduceLE, Int.reduceNeg, Int.reduceEq, e4, gb]
          exact hQ _ S.ext
        · rw [if_neg hc] at hpp
          rw [hpp] at hQ
          simp (disch := omega) only [VW, VY, VZ, VA, VB, VC, VE, TY, ↓reduceIte, Nat.reduceEqDiff, Nat.reduceAdd, Nat.reduceMul, Nat.reduceSub, Nat.reduceLeDiff, List.length_cons, List.length_nil, List.length_append, List.append_assoc, List.take_succ_cons, List.take_zero, List.drop_succ_cons, List.drop_zero, List.set_cons_zero, List.set_cons_succ, true_or, or_true, and_self, Bool.false_eq_true, Nat.le_refl, Option.bind_some, Option.map_some, Option.getD_some, Option.isSome_some, List.map_cons, List.map_nil, List.cons_append, List.nil_append, List.append_nil, List.getElem?_cons_zero, List.getElem?_cons_succ, eq_self, Int.reduceLT, Int.reduceLE, Int.reduceNeg, Int.reduceEq, e0, a1, ea, hc, e4, e7]
          refine sep_store (S.pull 1 rfl) (by simp) fun h3 S => ?_
          have S := S.as (ds := [.string ⟨#[]⟩, .int .i64 0]) (by simp [t_put])
          have gb := S.rdAll (n := 2) rfl
          simp (disch := omega) only [VW, VY, VZ, VA, VB, VC, VE, TY, ↓reduceIte, Nat.reduceEqDiff, Nat.reduceAdd, Nat.reduceMul, Nat.reduceSub, Nat.reduceLeDiff, List.length_cons, List.length_nil, List.length_append, List.append_assoc, List.take_succ_cons, List.take_zero, List.drop_succ_cons, List.drop_zero, List.set_cons_zero, List.set_cons_succ, true_or, or_true, and_self, Bool.false_eq_true, Nat.le_refl, Option.bind_some, Option.map_some, Option.getD_some, Option.isSome_some, List.map_cons, List.map_nil, List.cons_append, List.nil_append, List.append_nil, List.getElem?_cons_zero, List.getElem?_cons_succ, eq_self, Int.reduceLT, Int.reduceLE, Int.reduceNeg, Int.reduceEq, e4, gb]
          exact hQ _ S.ext
  · have h4' : ¬ ((splitL 58 s.data.toList).length : Int) = 4 := by omega
    rw [parseS_none h4] at hQ
    simp (disch := omega) only [VW, VY, VZ, VA, VB, VC, VE, TY, ↓reduceIte, Nat.reduceEqDiff, Nat.reduceAdd, Nat.reduceMul, Nat.reduceSub, Nat.reduceLeDiff, List.length_cons, List.length_nil, List.length_append, List.append_assoc, List.take_succ_cons, List.take_zero, List.drop_succ_cons, List.drop_zero, List.set_cons_zero, List.set_cons_succ, true_or, or_true, and_self, Bool.false_eq_true, Nat.le_refl, Option.bind_some, Option.map_some, Option.getD_some, Option.isSome_some, List.map_cons, List.map_nil, List.cons_append, List.nil_append, List.append_nil, List.getElem?_cons_zero, List.getElem?_cons_succ, eq_self, Int.reduceLT, Int.reduceLE, Int.reduceNeg, Int.reduceEq, h4']
    refine sep_store s4 (by simp) fun h3 s => ?_
    have s := s.as (ds := [.string ⟨#[]⟩, .int .i64 0]) (by simp [t_put])
    have gb := s.rdAll (n := 2) rfl
    simp (disch := omega) only [VW, VY, VZ, VA, VB, VC, VE, TY, ↓reduceIte, Nat.reduceEqDiff, Nat.reduceAdd, Nat.reduceMul, Nat.reduceSub, Nat.reduceLeDiff, List.length_cons, List.length_nil, List.length_append, List.append_assoc, List.take_succ_cons, List.take_zero, List.drop_succ_cons, List.drop_zero, List.set_cons_zero, List.set_cons_succ, true_or, or_true, and_self, Bool.false_eq_true, Nat.le_refl, Option.bind_some, Option.map_some, Option.getD_some, Option.isSome_some, List.map_cons, List.map_nil, List.cons_append, List.nil_append, List.append_nil, List.getElem?_cons_zero, List.getElem?_cons_succ, eq_self, Int.reduceLT, Int.reduceLE, Int.reduceNeg, Int.reduceEq, gb]
    exact hQ _ s.ext
end Go.Proofs

/- Contracts of functions, facts of types, or the plain law behind one statement (own work): ID. Conditions: those told in each theorem. -/
import Derived.Test.YtlnephhhcofilaaGreatIC
set_option linter.all false
set_option linter.unusedSimpArgs false
set_option linter.unusedVariables false
set_option maxRecDepth 4000
namespace Go.Proofs
open Go Go.V
open Nat (reduceEqDiff reduceAdd reduceMul reduceSub reduceLeDiff)
open Int (reduceLT reduceLE reduceNeg reduceEq)
/- Comparing, rounding. -/
theorem sgnN_sgn (a b : Nat) : sgnN a b = sgn ((a : Int) - b) := by
  unfold sgnN sgn
  by_cases c1 : a < b
  · rw [if_pos c1, if_neg (by omega), if_pos (by omega)]
  · by_cases c2 : b < a
    · rw [if_neg c1, if_pos c2, if_pos (by omega)]
    · rw [if_neg c1, if_neg c2, if_neg (by omega), if_neg (by omega)]
theorem compareWide_c {a b : Wd} {h : Heap} {Q : Value → Heap → Prop} (ga : a.G) (gb : b.G) (hQ : ∀ h', Ext h h' → Q (.int .i64 (sgn (a.val - b.val))) h') :
    CallsV Tryz.prog 149 [.agg a.cs.toArray, .agg b.cs.toArray] h Q := by
  refine CallsV.start Tryz.func149 rfl (by rw [Tryz.results149]) (by kernel_rfl) (by rw [Tryz.ntmps149]; simp) ?_
  have s := Sep.blk2 h a.cs b.cs 130 130 true true
  have g1 := (s.pull 1 rfl).rdAll (n := 3) rfl
  have g2 := (s.pull 0 rfl).rdAll (n := 3) rfl
  simp (disch := omega) only [WA, ↓reduceIte, reduceEqDiff, reduceAdd, reduceMul, reduceSub, reduceLeDiff, reduceLT, reduceLE, reduceNeg, reduceEq, g1, g2]
  refine .inl ⟨by kernel_rfl, ?_⟩; refine isZero_c fun h1 E1 => ?_
  have s := s.mono E1
  have g1 := (s.pull 1 rfl).rd
  have g2 := (s.pull 0 rfl).rd
  have f1 := (s.pull 1 rfl).rdAll (n := 3) rfl
  have f2 := (s.pull 0 rfl).rdAll (n := 3) rfl
  by_cases z1 : a.mag = 0
  · have d1 := decide_eq_true z1
    simp (disch := omega) only [WA, ↓reduceIte, reduceEqDiff, reduceAdd, reduceMul, reduceSub, reduceLeDiff, reduceLT, reduceLE, reduceNeg, reduceEq, d1, f1, f2, g1, g2]
    refine .inl ⟨by kernel_rfl, ?_⟩; refine isZero_c fun h2 E2 => ?_
    have s := s.mono E2
    have g1 := (s.pull 1 rfl).rd
    have g2 := (s.pull 0 rfl).rd
    have f1 := (s.pull 1 rfl).rdAll (n := 3) rfl
    have f2 := (s.pull 0 rfl).rdAll (n := 3) rfl
    by_cases z2 : b.mag = 0
    · have d2 := decide_eq_true z2
      have e : sgn (a.val - b.val) = 0 := by
        unfold Wd.val
        rw [z1, z2]
        split <;> split <;> rfl
      rw [e] at hQ
      simp (disch := omega) only [WA, ↓reduceIte, reduceEqDiff, reduceAdd, reduceMul, reduceSub, reduceLeDiff, reduceLT, reduceLE, reduceNeg, reduceEq, d2]
      exact hQ _ s.ext
    · have d2 := decide_eq_false z2
      simp (disch := omega) only [WA, ↓reduceIte, reduceEqDiff, reduceAdd, reduceMul, reduceSub, reduceLeDiff, reduceLT, reduceLE, reduceNeg, reduceEq, d2, g1, g2]
      by_cases n1 : a.neg = b.neg
      · have n1' : (!(a.neg == b.neg)) = false := by rw [n1]; simp
        simp (disch := omega) only [WA, ↓reduceIte, reduceEqDiff, reduceAdd, reduceMul, reduceSub, reduceLeDiff, reduceLT, reduceLE, reduceNeg, reduceEq, n1', b_neb, g1, g2]
        cases hn : a.neg with
        | true =>
          have hb : b.neg = true := by rw [← n1]; exact hn
          have e : sgn (a.val - b.val) = sgnN b.mag a.mag := by
            rw [sgnN_sgn]; unfold Wd.val; rw [hn, hb]; congr 1; simp only [if_true]; omega
          rw [e] at hQ
          simp (disch := omega) only [WA, ↓reduceIte, reduceEqDiff, reduceAdd, reduceMul, reduceSub, reduceLeDiff, reduceLT, reduceLE, reduceNeg, reduceEq, hn, f1, f2]
          refine .inl ⟨by kernel_rfl, ?_⟩; refine compareSizes_c gb ga fun h3 E3 => ?_
          exact hQ _ (s.ext.trans E3)
        | false =>
          have hb : b.neg = false := by rw [← n1]; exact hn
          have e : sgn (a.val - b.val) = sgnN a.mag b.mag := by
            rw [sgnN_sgn]; unfold Wd.val; rw [hn, hb]; rfl
          rw [e] at hQ
          simp (disch := omega) only [WA, ↓reduceIte, reduceEqDiff, reduceAdd, reduceMul, reduceSub, reduceLeDiff, reduceLT, reduceLE, reduceNeg, reduceEq, hn, f1, f2]
          refine .inl ⟨by kernel_rfl, ?_⟩; refine compareSizes_c ga gb fun h3 E3 => ?_
          exact hQ _ (s.ext.trans E3)
      · have n1' : (!(a.neg == b.neg)) = true := by simpa using n1
        simp (disch := omega) only [WA, ↓reduceIte, reduceEqDiff, reduceAdd, reduceMul, reduceSub, reduceLeDiff, reduceLT, reduceLE, reduceNeg, reduceEq, n1', b_neb, g1, g2]
        cases hn : a.neg with
        | true =>
          have hb : b.neg = false := by cases hb : b.neg <;> simp_all
          have e : sgn (a.val - b.val) = -1 := by
            unfold Wd.val sgn; rw [hn, hb]; simp only [if_true]; rw [if_neg (by simp only [Bool.false_eq_true, if_false]; omega), if_pos (by simp only [Bool.false_eq_true, if_false]; omega)]
          rw [e] at hQ
          simp (disch := omega) only [WA, ↓reduceIte, reduceEqDiff, reduceAdd, reduceMul, reduceSub, reduceLeDiff, reduceLT, reduceLE, reduceNeg, reduceEq, hn]
          exact hQ _ s.ext
        | false =>
          have hb : b.neg = true := by cases hb : b.neg <;> simp_all
          have e : sgn (a.val - b.val) = 1 := by
            unfold Wd.val sgn; rw [hn, hb]; simp only [if_true]; rw [if_pos (by simp only [Bool.false_eq_true, if_false]; omega)]
          rw [e] at hQ
          simp (disch := omega) only [WA, ↓reduceIte, reduceEqDiff, reduceAdd, reduceMul, reduceSub, reduceLeDiff, reduceLT, reduceLE, reduceNeg, reduceEq, hn]
          exact hQ _ s.ext
  · have d1 := decide_eq_false z1
    simp (disch := omega) only [WA, ↓reduceIte, reduceEqDiff, reduceAdd, reduceMul, reduceSub, reduceLeDiff, reduceLT, reduceLE, reduceNeg, reduceEq, d1, f1, f2, g1, g2]
    by_cases n1 : a.neg = b.neg
    · have n1' : (!(a.neg == b.neg)) = false := by rw [n1]; simp
      simp (disch := omega) only [WA, ↓reduceIte, reduceEqDiff, reduceAdd, reduceMul, reduceSub, reduceLeDiff, reduceLT, reduceLE, reduceNeg, reduceEq, n1', b_neb, g1, g2]
      cases hn : a.neg with
      | true =>
        have hb : b.neg = true := by rw [← n1]; exact hn
        have e : sgn (a.val - b.val) = sgnN b.mag a.mag := by
          rw [sgnN_sgn]; unfold Wd.val; rw [hn, hb]; congr 1; simp only [if_true]; omega
        rw [e] at hQ
        simp (disch := omega) only [WA, ↓reduceIte, reduceEqDiff, reduceAdd, reduceMul, reduceSub, reduceLeDiff, reduceLT, reduceLE, reduceNeg, reduceEq, hn, f1, f2]
        refine .inl ⟨by kernel_rfl, ?_⟩; refine compareSizes_c gb ga fun h3 E3 => ?_
        exact hQ _ (s.ext.trans E3)
      | false =>
        have hb : b.neg = false := by rw [← n1]; exact hn
        have e : sgn (a.val - b.val) = sgnN a.mag b.mag := by
          rw [sgnN_sgn]; unfold Wd.val; rw [hn, hb]; rfl
        rw [e] at hQ
        simp (disch := omega) only [WA, ↓reduceIte, reduceEqDiff, reduceAdd, reduceMul, reduceSub, reduceLeDiff, reduceLT, reduceLE, reduceNeg, reduceEq, hn, f1, f2]
        refine .inl ⟨by kernel_rfl, ?_⟩; refine compareSizes_c ga gb fun h3 E3 => ?_
        exact hQ _ (s.ext.trans E3)
    · have n1' : (!(a.neg == b.neg)) = true := by simpa using n1
      simp (disch := omega) only [WA, ↓reduceIte, reduceEqDiff, reduceAdd, reduceMul, reduceSub, reduceLeDiff, reduceLT, reduceLE, reduceNeg, reduceEq, n1', b_neb, g1, g2]
      cases hn : a.neg with
      | true =>
        have hb : b.neg = false := by cases hb : b.neg <;> simp_all
        have e : sgn (a.val - b.val) = -1 := by
          unfold Wd.val sgn; rw [hn, hb]; simp only [if_true]; rw [if_neg (by simp only [Bool.false_eq_true, if_false]; omega), if_pos (by simp only [Bool.false_eq_true, if_false]; omega)]
        rw [e] at hQ
        simp (disch := omega) only [WA, ↓reduceIte, reduceEqDiff, reduceAdd, reduceMul, reduceSub, reduceLeDiff, reduceLT, reduceLE, reduceNeg, reduceEq, hn]
        exact hQ _ s.ext
      | false =>
        have hb : b.neg = true := by cases hb : b.neg <;> simp_all
        have e : sgn (a.val - b.val) = 1 := by
          unfold Wd.val sgn; rw [hn, hb]; simp only [if_true]; rw [if_pos (by simp only [Bool.false_eq_true, if_false]; omega)]
        rw [e] at hQ
        simp (disch := omega) only [WA, ↓reduceIte, reduceEqDiff, reduceAdd, reduceMul, reduceSub, reduceLeDiff, reduceLT, reduceLE, reduceNeg, reduceEq, hn]
        exact hQ _ s.ext
theorem compareD_c {a b : Dy} {h : Heap} {Q : Value → Heap → Prop} (ha : DyG a) (hb : DyG b) (hQ : ∀ h', Ext h h' → Q (.int .i64 (cmpM a b)) h') :
    CallsV Tryz.prog 138 [.agg (dyC a).toArray, .agg (dyC b).toArray] h Q := by
  refine CallsV.start Tryz.func138 rfl (by rw [Tryz.results138]) (by kernel_rfl) (by rw [Tryz.ntmps138]; simp) ?_
  have s := Sep.blk2 h (dyC a) (dyC b) 97 97 true true
  have hk := kM_le ha hb
  have hka := ha.k0
  have hkb := hb.k0
  have ga := (s.pull 1 rfl).rd
  have gb := (s.pull 0 rfl).rd
  have em : max a.k b.k = ((kM a b : Nat) : Int) := by unfold kM; omega
  have ea : ((kM a b : Nat) : Int) - a.k = ((kM a b - a.k.toNat : Nat) : Int) := by unfold kM; omega
  have eb : ((kM a b : Nat) : Int) - b.k = ((kM a b - b.k.toNat : Nat) : Int) := by unfold kM; omega
  have ma := up_wide ha (k := kM a b - a.k.toNat) (by omega)
  have mb := up_wide hb (k := kM a b - b.k.toNat) (by omega)
  have hn0 := ha.n0
  have hn1 := ha.n1
  have hm0 := hb.n0
  have hm1 := hb.n1
  have ev : sgn ((shlM (wideM a.n) (kM a b - a.k.toNat)).val - (shlM (wideM b.n) (kM a b - b.k.toNat)).val) = cmpM a b := by
    rw [shl_valM, shl_valM, wideM_val, wideM_val, cmpM_at ha hb (Nat.le_refl _) hk]; rfl
  simp (disch := omega) only [WA, ↓reduceIte, reduceEqDiff, reduceAdd, reduceMul, reduceSub, reduceLeDiff, reduceLT, reduceLE, reduceNeg, reduceEq, ga, gb, em]
  refine draw_ord [0, 1, 3, 4, 5, 6, 8, 9, 11, 12, 13, 14, 2, 7, 10, 15, 16, 17] (by kernel_rfl) (by simp only [List.filterMap_cons, List.filterMap_nil, List.getElem?_cons_zero, List.getElem?_cons_succ]; rfl) ?_
  simp (disch := omega) only [WA, ↓reduceIte, reduceEqDiff, reduceAdd, reduceMul, reduceSub, reduceLeDiff, reduceLT, reduceLE, reduceNeg, reduceEq, ga, gb]
  refine .inl ⟨by kernel_rfl, ?_⟩; refine wideOf_c (by omega) fun h1 E1 => ?_
  have s := s.mono E1
  have ga := (s.pull 1 rfl).rd
  have gb := (s.pull 0 rfl).rd
  simp (disch := omega) only [WA, ↓reduceIte, reduceEqDiff, reduceAdd, reduceMul, reduceSub, reduceLeDiff, reduceLT, reduceLE, reduceNeg, reduceEq, ga, gb, ea, eb, wrap_in]
  refine .inl ⟨by kernel_rfl, ?_⟩; refine shiftL_c (wideM_G (by omega)) (by omega) (by omega) fun h2 E2 => ?_
  have s := s.mono E2
  have ga := (s.pull 1 rfl).rd
  have gb := (s.pull 0 rfl).rd
  simp (disch := omega) only [WA, ↓reduceIte, reduceEqDiff, reduceAdd, reduceMul, reduceSub, reduceLeDiff, reduceLT, reduceLE, reduceNeg, reduceEq, ga, gb, ea, eb, wrap_in]
  refine .inl ⟨by kernel_rfl, ?_⟩; refine wideOf_c (by omega) fun h3 E3 => ?_
  have s := s.mono E3
  have ga := (s.pull 1 rfl).rd
  have gb := (s.pull 0 rfl).rd
  simp (disch := omega) only [WA, ↓reduceIte, reduceEqDiff, reduceAdd, reduceMul, reduceSub, reduceLeDiff, reduceLT, reduceLE, reduceNeg, reduceEq, ga, gb, ea, eb, wrap_in]
  refine .inl ⟨by kernel_rfl, ?_⟩; refine shiftL_c (wideM_G (by omega)) (by omega) (by omega) fun h4 E4 => ?_
  have s := s.mono E4
  have ga := (s.pull 1 rfl).rd
  have gb := (s.pull 0 rfl).rd
  simp (disch := omega) only [WA, ↓reduceIte, reduceEqDiff, reduceAdd, reduceMul, reduceSub, reduceLeDiff, reduceLT, reduceLE, reduceNeg, reduceEq, ga, gb]
  refine .inl ⟨by kernel_rfl, ?_⟩; refine compareWide_c (wdOf_G _ (by omega)) (wdOf_G _ (by omega)) fun h5 E5 => ?_
  rw [ev]
  have s := s.mono E5
  have ga := (s.pull 1 rfl).rd
  have gb := (s.pull 0 rfl).rd
  simp (disch := omega) only [WA, ↓reduceIte, reduceEqDiff, reduceAdd, reduceMul, reduceSub, reduceLeDiff, reduceLT, reduceLE, reduceNeg, reduceEq, ga, gb]
  exact hQ _ s.ext
theorem lesser_c {a b : Dy} {h : Heap} {Q : Value → Heap → Prop} (ha : DyG a) (hb : DyG b) (hQ : ∀ h', Ext h h' → Q (.agg (dyC (lsM a b)).toArray) h') :
    CallsV Tryz.prog 128 [.agg (dyC a).toArray, .agg (dyC b).toArray] h Q := by
  refine CallsV.start Tryz.func128 rfl (by rw [Tryz.results128]) (by kernel_rfl) (by rw [Tryz.ntmps128]; simp) ?_
  have s := Sep.blk3 h (dyC a) (dyC b) [.int .i64 0, .int .i64 0] 97 97 97 true true true
  have ga := (s.pull 2 rfl).rdAll (n := 2) rfl
  have gb := (s.pull 1 rfl).rdAll (n := 2) rfl
  simp (disch := omega) only [WA, ↓reduceIte, reduceEqDiff, reduceAdd, reduceMul, reduceSub, reduceLeDiff, reduceLT, reduceLE, reduceNeg, reduceEq, ga, gb]
  refine .inl ⟨by kernel_rfl, ?_⟩; refine compareD_c hb ha fun h1 E1 => ?_
  have s := s.mono E1
  have ga := (s.pull 2 rfl).rdAll (n := 2) rfl
  have gb := (s.pull 1 rfl).rdAll (n := 2) rfl
  unfold lsM at hQ
  by_cases c : cmpM b a < 0
  · rw [if_pos c] at hQ
    simp (disch := omega) only [WA, ↓reduceIte, reduceEqDiff, reduceAdd, reduceMul, reduceSub, reduceLeDiff, reduceLT, reduceLE, reduceNeg, reduceEq, c, ga, gb]
    refine sep_store (s.pull 0 rfl) (by simp) fun h7 s => ?_
    have s := s.as (ds := dyC b) (by simp [t_put])
    have gz := (s.pull 0 rfl).rdAll (n := 2) rfl
    simp (disch := omega) only [WA, ↓reduceIte, reduceEqDiff, reduceAdd, reduceMul, reduceSub, reduceLeDiff, reduceLT, reduceLE, reduceNeg, reduceEq, gz]
    exact hQ _ s.ext
  · rw [if_neg c] at hQ
    simp (disch := omega) only [WA, ↓reduceIte, reduceEqDiff, reduceAdd, reduceMul, reduceSub, reduceLeDiff, reduceLT, reduceLE, reduceNeg, reduceEq, c, ga, gb]
    refine sep_store (s.pull 0 rfl) (by simp) fun h7 s => ?_
    have s := s.as (ds := dyC a) (by simp [t_put])
    have gz := (s.pull 0 rfl).rdAll (n := 2) rfl
    simp (disch := omega) only [WA, ↓reduceIte, reduceEqDiff, reduceAdd, reduceMul, reduceSub, reduceLeDiff, reduceLT, reduceLE, reduceNeg, reduceEq, gz]
    exact hQ _ s.ext
theorem greater_c {a b : Dy} {h : Heap} {Q : Value → Heap → Prop} (ha : DyG a) (hb : DyG b) (hQ : ∀ h', Ext h h' → Q (.agg (dyC (gtM a b)).toArray) h') :
    CallsV Tryz.prog 129 [.agg (dyC a).toArray, .agg (dyC b).toArray] h Q := by
  refine CallsV.start Tryz.func129 rfl (by rw [Tryz.results129]) (by kernel_rfl) (by rw [Tryz.ntmps129]; simp) ?_
  have s := Sep.blk3 h (dyC a) (dyC b) [.int .i64 0, .int .i64 0] 97 97 97 true true true
  have ga := (s.pull 2 rfl).rdAll (n := 2) rfl
  have gb := (s.pull 1 rfl).rdAll (n := 2) rfl
  simp (disch := omega) only [WA, ↓reduceIte, reduceEqDiff, reduceAdd, reduceMul, reduceSub, reduceLeDiff, reduceLT, reduceLE, reduceNeg, reduceEq, ga, gb]
  refine .inl ⟨by kernel_rfl, ?_⟩; refine compareD_c hb ha fun h1 E1 => ?_
  have s := s.mono E1
  have ga := (s.pull 2 rfl).rdAll (n := 2) rfl
  have gb := (s.pull 1 rfl).rdAll (n := 2) rfl
  unfold gtM at hQ
  by_cases c : 0 < cmpM b a
  · rw [if_pos c] at hQ
    simp (disch := omega) only [WA, ↓reduceIte, reduceEqDiff, reduceAdd, reduceMul, reduceSub, reduceLeDiff, reduceLT, reduceLE, reduceNeg, reduceEq, c, ga, gb]
    refine sep_store (s.pull 0 rfl) (by simp) fun h7 s => ?_
    have s := s.as (ds := dyC b) (by simp [t_put])
    have gz := (s.pull 0 rfl).rdAll (n := 2) rfl
    simp (disch := omega) only [WA, ↓reduceIte, reduceEqDiff, reduceAdd, reduceMul, reduceSub, reduceLeDiff, reduceLT, reduceLE, reduceNeg, reduceEq, gz]
    exact hQ _ s.ext
  · rw [if_neg c] at hQ
    simp (disch := omega) only [WA, ↓reduceIte, reduceEqDiff, reduceAdd, reduceMul, reduceSub, reduceLeDiff, reduceLT, reduceLE, reduceNeg, reduceEq, c, ga, gb]
    refine sep_store (s.pull 0 rfl) (by simp) fun h7 s => ?_
    have s := s.as (ds := dyC a) (by simp [t_put])
    have gz := (s.pull 0 rfl).rdAll (n := 2) rfl
    simp (disch := omega) only [WA, ↓reduceIte, reduceEqDiff, reduceAdd, reduceMul, reduceSub, reduceLeDiff, reduceLT, reduceLE, reduceNeg, reduceEq, gz]
    exact hQ _ s.ext
theorem shr_i (n : Int) (k : Nat) (h : k ≤ 64) : Int.fdiv n (2 ^ min k 64) = n / 2 ^ k := by
  have e : min k 64 = k := by omega
  rw [e, Int.fdiv_eq_ediv_of_nonneg _ (Int.le_of_lt (pow_pos' k))]
theorem div_in {n : Int} (k : Nat) (h : -1099511627776 ≤ n ∧ n ≤ 1099511627776) : -1099511627776 ≤ n / 2 ^ k ∧ n / 2 ^ k ≤ 1099511627776 := by
  have hp := pow_pos' k
  have h1 := h.1
  have h2 := h.2
  constructor
  · refine (Int.le_ediv_iff_mul_le hp).2 ?_
    have : 1099511627776 * 1 ≤ 1099511627776 * (2 : Int) ^ k := Int.mul_le_mul_of_nonneg_left (by omega) (by decide)
    rw [Int.neg_mul]; omega
  · have : n / 2 ^ k < 1099511627777 := by
      refine (Int.ediv_lt_iff_lt_mul hp).2 ?_
      have : 1099511627777 * 1 ≤ 1099511627777 * (2 : Int) ^ k := Int.mul_le_mul_of_nonneg_left (by omega) (by decide)
      omega
    omega
theorem i64bits : IntKind.i64.bits = 64 := rfl
theorem roundDown_c {a : Dy} {h : Heap} {Q : Value → Heap → Prop} (ha : DyG a) (hQ : ∀ h', Ext h h' → Q (.agg (dyC (rdM a)).toArray) h') :
    CallsV Tryz.prog 159 [.agg (dyC a).toArray, .int .i64 16] h Q := by
  refine CallsV.start Tryz.func159 rfl (by rw [Tryz.results159]) (by kernel_rfl) (by rw [Tryz.ntmps159]; simp) ?_
  have s := Sep.blk2 h (dyC a) [.int .i64 0, .int .i64 0] 97 97 true true
  have ga := (s.pull 1 rfl).rd
  have fa := (s.pull 1 rfl).rdAll (n := 2) rfl
  have ak0 := ha.k0
  have ak1 := ha.k1
  unfold rdM at hQ
  by_cases c : a.k ≤ 16
  · rw [if_pos c] at hQ
    simp (disch := omega) only [WA, ↓reduceIte, reduceEqDiff, reduceAdd, reduceMul, reduceSub, reduceLeDiff, reduceLT, reduceLE, reduceNeg, reduceEq, ga, fa, c]
    exact hQ _ (.app _ _)
  · rw [if_neg c] at hQ
    have ek : a.k - 16 = ((a.k.toNat - 16 : Nat) : Int) := by omega
    have n1 : ¬ ((a.k.toNat - 16 : Nat) : Int) < 0 := by omega
    have hsh := shr_i a.n (a.k.toNat - 16) (by omega)
    have hin := div_in (a.k.toNat - 16) ⟨ha.n0, ha.n1⟩
    simp (disch := omega) only [WA, ↓reduceIte, reduceEqDiff, reduceAdd, reduceMul, reduceSub, reduceLeDiff, reduceLT, reduceLE, reduceNeg, reduceEq, ga, fa, c, ek, wrap_in, n1, hsh, i64bits]
    refine .inl ⟨by kernel_rfl, ?_⟩; refine wideOf_c (by omega) fun h1 E1 => ?_
    have s := s.mono E1
    simp (disch := omega) only [WA, ↓reduceIte, reduceEqDiff, reduceAdd, reduceMul, reduceSub, reduceLeDiff, reduceLT, reduceLE, reduceNeg, reduceEq]
    refine .inl ⟨by kernel_rfl, ?_⟩; refine fit_c (k := 16) (wideM_G (by omega)) (by omega) fun h2 E2 => ?_
    have s := s.mono E2
    rw [wideM_val, optV_eq]
    simp (disch := omega) only [WA, ↓reduceIte, reduceEqDiff, reduceAdd, reduceMul, reduceSub, reduceLeDiff, reduceLT, reduceLE, reduceNeg, reduceEq]
    have s := s.newBlk (dyC ((makeM (a.n / 2 ^ (a.k.toNat - 16)) 16).getD ⟨0, 0⟩)) 97 true
    refine sep_store (s.pull 1 rfl) (by simp) fun h7 s => ?_
    have s := s.as (ds := dyC ((makeM (a.n / 2 ^ (a.k.toNat - 16)) 16).getD ⟨0, 0⟩)) (by simp [t_put])
    have gz := (s.pull 0 rfl).rdAll (n := 2) rfl
    simp (disch := omega) only [WA, ↓reduceIte, reduceEqDiff, reduceAdd, reduceMul, reduceSub, reduceLeDiff, reduceLT, reduceLE, reduceNeg, reduceEq, gz]
    exact hQ _ s.ext
end Go.Proofs

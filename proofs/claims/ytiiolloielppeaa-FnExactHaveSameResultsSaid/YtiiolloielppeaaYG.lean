/- Contracts of functions, facts of types, or the plain law behind one statement (own work): YG. Conditions: those told in each theorem. -/
import Derived.Test.YtiiolloielppeaaYF
set_option linter.all false
set_option linter.unusedSimpArgs false
set_option linter.unusedVariables false
set_option maxRecDepth 4000
namespace Go.Proofs
open Go Go.V
/- Sums. -/
theorem wideM_G {n : Int} (h : n.natAbs < 18446744073709551616) : (wideM n).G := by
  unfold wideM
  exact ⟨by simp, by simp only []; exact h⟩
theorem shl_valM (w : Wd) (k : Nat) : (shlM w k).val = w.val * 2 ^ k := by
  unfold shlM
  rw [wdOf_val]
  unfold Wd.val
  cases w.neg with
  | true => simp [Int.neg_mul]
  | false => simp
theorem shl_magM (w : Wd) (k : Nat) : (shlM w k).mag = w.mag * 2 ^ k := by unfold shlM; rw [wdOf_mag]
theorem big128 : (18446744073709551616 * 18446744073709551616 : Nat) = 340282366920938463463374607431768211456 := by decide
theorem up_wide {a : Dy} (ha : DyG a) {k : Nat} (hk : k ≤ 24) : (wideM a.n).mag * 2 ^ k ≤ 18446744073709551616 := by
  rw [wideM_mag]
  have h1 : a.n.natAbs ≤ 1099511627776 := by have := ha.n0; have := ha.n1; omega
  have h2 : (2 : Nat) ^ k ≤ 16777216 := by
    have := Nat.pow_le_pow_right (n := 2) (by decide) hk
    have e : (2 : Nat) ^ 24 = 16777216 := by decide
    omega
  have := Nat.mul_le_mul h1 h2
  omega
theorem addW_G {w v : Wd} (h : w.mag + v.mag < 18446744073709551616 * 18446744073709551616) : (addW w v).G := by
  unfold addW
  split
  · exact wdOf_G _ h
  · split
    · exact wdOf_G _ (by omega)
    · exact wdOf_G _ (by omega)
theorem kM_sub (a b : Dy) : ((kM a b : Nat) : Int) = max (a.k.toNat : Int) (b.k.toNat : Int) := by unfold kM; omega
theorem optV_eq (o : Option Dy) : optV o = .tuple #[.agg (dyC (o.getD ⟨0, 0⟩)).toArray, .bool o.isSome] := rfl
theorem minus_c {a : Dy} {h : Heap} {Q : Value → Heap → Prop} (ha : DyG a) (hQ : ∀ h', Ext h h' → Q (.agg (dyC (negM a)).toArray) h') :
    CallsV Try.prog 57 [.agg (dyC a).toArray] h Q := by
  refine CallsV.start Try.func57 rfl (by rw [Try.results57]) (by kernel_rfl) (by rw [Try.ntmps57]; simp) ?_
  have h0 := ha.n0
  have h1 := ha.n1
  have s := Sep.blk2 h (dyC a) [.int .i64 0, .int .i64 0] 39 39 true true
  have g := (s.pull 1 rfl).rd
  simp (disch := omega) only [VW, VY, VZ, VA, VB, VC, VE, TY, ↓reduceIte, Nat.reduceEqDiff, Nat.reduceAdd, Nat.reduceMul, Nat.reduceSub, Nat.reduceLeDiff, List.length_cons, List.length_nil, List.length_append, List.append_assoc, List.take_succ_cons, List.take_zero, List.drop_succ_cons, List.drop_zero, List.set_cons_zero, List.set_cons_succ, true_or, or_true, and_self, Bool.false_eq_true, Nat.le_refl, Option.bind_some, Option.map_some, Option.getD_some, Option.isSome_some, List.map_cons, List.map_nil, List.cons_append, List.nil_append, List.append_nil, List.getElem?_cons_zero, List.getElem?_cons_succ, eq_self, Int.reduceLT, Int.reduceLE, Int.reduceNeg, Int.reduceEq, g, wrap_in]
  have e : dyC (negM a) = [.int .i64 (0 - a.n), .int .i64 a.k] := by unfold negM; simp only [Int.zero_sub]
  rw [e] at hQ
  exact hQ _ (.app _ _)
theorem sumOf_c {a b : Dy} {h : Heap} {Q : Value → Heap → Prop} (ha : DyG a) (hb : DyG b) (hQ : ∀ h', Ext h h' → Q (optV (sumM' a b)) h') :
    CallsV Try.prog 94 [.agg (dyC a).toArray, .agg (dyC b).toArray] h Q := by
  refine CallsV.start Try.func94 rfl (by rw [Try.results94]) (by kernel_rfl) (by rw [Try.ntmps94]; simp) ?_
  have s := Sep.blk3 h (dyC a) (dyC b) [.int .i64 0, .int .i64 0] 39 39 39 true true true
  have hk := kM_le ha hb
  have hka := ha.k0
  have hkb := hb.k0
  have ga := (s.pull 2 rfl).rd
  have gb := (s.pull 1 rfl).rd
  have em : max a.k b.k = ((kM a b : Nat) : Int) := by unfold kM; omega
  have ea : ((kM a b : Nat) : Int) - a.k = ((kM a b - a.k.toNat : Nat) : Int) := by unfold kM; omega
  have eb : ((kM a b : Nat) : Int) - b.k = ((kM a b - b.k.toNat : Nat) : Int) := by unfold kM; omega
  have ma := up_wide ha (k := kM a b - a.k.toNat) (by omega)
  have mb := up_wide hb (k := kM a b - b.k.toNat) (by omega)
  have hn0 := ha.n0
  have hn1 := ha.n1
  have hm0 := hb.n0
  have hm1 := hb.n1
  simp (disch := omega) only [VW, VY, VZ, VA, VB, VC, VE, TY, ↓reduceIte, Nat.reduceEqDiff, Nat.reduceAdd, Nat.reduceMul, Nat.reduceSub, Nat.reduceLeDiff, List.length_cons, List.length_nil, List.length_append, List.append_assoc, List.take_succ_cons, List.take_zero, List.drop_succ_cons, List.drop_zero, List.set_cons_zero, List.set_cons_succ, true_or, or_true, and_self, Bool.false_eq_true, Nat.le_refl, Option.bind_some, Option.map_some, Option.getD_some, Option.isSome_some, List.map_cons, List.map_nil, List.cons_append, List.nil_append, List.append_nil, List.getElem?_cons_zero, List.getElem?_cons_succ, eq_self, Int.reduceLT, Int.reduceLE, Int.reduceNeg, Int.reduceEq, ga, gb, em]
  refine draw_ord [0, 1, 3, 4, 5, 6, 8, 9, 11, 12, 13, 14, 17, 2, 7, 10, 15, 16, 18, 19, 20, 21, 22] (by kernel_rfl) (by simp only [List.filterMap_cons, List.filterMap_nil, List.getElem?_cons_zero, List.getElem?_cons_succ]; rfl) ?_
  simp (disch := omega) only [VW, VY, VZ, VA, VB, VC, VE, TY, ↓reduceIte, Nat.reduceEqDiff, Nat.reduceAdd, Nat.reduceMul, Nat.reduceSub, Nat.reduceLeDiff, List.length_cons, List.length_nil, List.length_append, List.append_assoc, List.take_succ_cons, List.take_zero, List.drop_succ_cons, List.drop_zero, List.set_cons_zero, List.set_cons_succ, true_or, or_true, and_self, Bool.false_eq_true, Nat.le_refl, Option.bind_some, Option.map_some, Option.getD_some, Option.isSome_some, List.map_cons, List.map_nil, List.cons_append, List.nil_append, List.append_nil, List.getElem?_cons_zero, List.getElem?_cons_succ, eq_self, Int.reduceLT, Int.reduceLE, Int.reduceNeg, Int.reduceEq, ga, gb]
  refine .inl ⟨by kernel_rfl, ?_⟩; refine wideOf_c (by omega) fun h1 E1 => ?_
  have s := s.mono E1
  have ga := (s.pull 2 rfl).rd
  have gb := (s.pull 1 rfl).rd
  simp (disch := omega) only [VW, VY, VZ, VA, VB, VC, VE, TY, ↓reduceIte, Nat.reduceEqDiff, Nat.reduceAdd, Nat.reduceMul, Nat.reduceSub, Nat.reduceLeDiff, List.length_cons, List.length_nil, List.length_append, List.append_assoc, List.take_succ_cons, List.take_zero, List.drop_succ_cons, List.drop_zero, List.set_cons_zero, List.set_cons_succ, true_or, or_true, and_self, Bool.false_eq_true, Nat.le_refl, Option.bind_some, Option.map_some, Option.getD_some, Option.isSome_some, List.map_cons, List.map_nil, List.cons_append, List.nil_append, List.append_nil, List.getElem?_cons_zero, List.getElem?_cons_succ, eq_self, Int.reduceLT, Int.reduceLE, Int.reduceNeg, Int.reduceEq, ga, gb, ea, eb, wrap_in]
  refine .inl ⟨by kernel_rfl, ?_⟩; refine shiftL_c (wideM_G (by omega)) (by omega) (by omega) fun h2 E2 => ?_
  have s := s.mono E2
  have ga := (s.pull 2 rfl).rd
  have gb := (s.pull 1 rfl).rd
  simp (disch := omega) only [VW, VY, VZ, VA, VB, VC, VE, TY, ↓reduceIte, Nat.reduceEqDiff, Nat.reduceAdd, Nat.reduceMul, Nat.reduceSub, Nat.reduceLeDiff, List.length_cons, List.length_nil, List.length_append, List.append_assoc, List.take_succ_cons, List.take_zero, List.drop_succ_cons, List.drop_zero, List.set_cons_zero, List.set_cons_succ, true_or, or_true, and_self, Bool.false_eq_true, Nat.le_refl, Option.bind_some, Option.map_some, Option.getD_some, Option.isSome_some, List.map_cons, List.map_nil, List.cons_append, List.nil_append, List.append_nil, List.getElem?_cons_zero, List.getElem?_cons_succ, eq_self, Int.reduceLT, Int.reduceLE, Int.reduceNeg, Int.reduceEq, ga, gb, ea, eb, wrap_in]
  refine .inl ⟨by kernel_rfl, ?_⟩; refine wideOf_c (by omega) fun h3 E3 => ?_
  have s := s.mono E3
  have ga := (s.pull 2 rfl).rd
  have gb := (s.pull 1 rfl).rd
  simp (disch := omega) only [VW, VY, VZ, VA, VB, VC, VE, TY, ↓reduceIte, Nat.reduceEqDiff, Nat.reduceAdd, Nat.reduceMul, Nat.reduceSub, Nat.reduceLeDiff, List.length_cons, List.length_nil, List.length_append, List.append_assoc, List.take_succ_cons, List.take_zero, List.drop_succ_cons, List.drop_zero, List.set_cons_zero, List.set_cons_succ, true_or, or_true, and_self, Bool.false_eq_true, Nat.le_refl, Option.bind_some, Option.map_some, Option.getD_some, Option.isSome_some, List.map_cons, List.map_nil, List.cons_append, List.nil_append, List.append_nil, List.getElem?_cons_zero, List.getElem?_cons_succ, eq_self, Int.reduceLT, Int.reduceLE, Int.reduceNeg, Int.reduceEq, ga, gb, ea, eb, wrap_in]
  refine .inl ⟨by kernel_rfl, ?_⟩; refine shiftL_c (wideM_G (by omega)) (by omega) (by omega) fun h4 E4 => ?_
  have s := s.mono E4
  have ga := (s.pull 2 rfl).rd
  have gb := (s.pull 1 rfl).rd
  simp (disch := omega) only [VW, VY, VZ, VA, VB, VC, VE, TY, ↓reduceIte, Nat.reduceEqDiff, Nat.reduceAdd, Nat.reduceMul, Nat.reduceSub, Nat.reduceLeDiff, List.length_cons, List.length_nil, List.length_append, List.append_assoc, List.take_succ_cons, List.take_zero, List.drop_succ_cons, List.drop_zero, List.set_cons_zero, List.set_cons_succ, true_or, or_true, and_self, Bool.false_eq_true, Nat.le_refl, Option.bind_some, Option.map_some, Option.getD_some, Option.isSome_some, List.map_cons, List.map_nil, List.cons_append, List.nil_append, List.append_nil, List.getElem?_cons_zero, List.getElem?_cons_succ, eq_self, Int.reduceLT, Int.reduceLE, Int.reduceNeg, Int.reduceEq, ga, gb]
  refine .inl ⟨by kernel_rfl, ?_⟩; refine add_c (wdOf_G _ (by omega)) (wdOf_G _ (by omega)) (by rw [shl_magM, shl_magM]; omega) fun h5 E5 => ?_
  have s := s.mono E5
  have ga := (s.pull 2 rfl).rd
  have gb := (s.pull 1 rfl).rd
  simp (disch := omega) only [VW, VY, VZ, VA, VB, VC, VE, TY, ↓reduceIte, Nat.reduceEqDiff, Nat.reduceAdd, Nat.reduceMul, Nat.reduceSub, Nat.reduceLeDiff, List.length_cons, List.length_nil, List.length_append, List.append_assoc, List.take_succ_cons, List.take_zero, List.drop_succ_cons, List.drop_zero, List.set_cons_zero, List.set_cons_succ, true_or, or_true, and_self, Bool.false_eq_true, Nat.le_refl, Option.bind_some, Option.map_some, Option.getD_some, Option.isSome_some, List.map_cons, List.map_nil, List.cons_append, List.nil_append, List.append_nil, List.getElem?_cons_zero, List.getElem?_cons_succ, eq_self, Int.reduceLT, Int.reduceLE, Int.reduceNeg, Int.reduceEq, ga, gb]
  have am := addW_mag (shlM (wideM a.n) (kM a b - a.k.toNat)) (shlM (wideM b.n) (kM a b - b.k.toNat))
  rw [shl_magM, shl_magM] at am
  have ge : (addW (shlM (wideM a.n) (kM a b - a.k.toNat)) (shlM (wideM b.n) (kM a b - b.k.toNat))).G := addW_G (by rw [shl_magM, shl_magM]; omega)
  refine .inl ⟨by kernel_rfl, ?_⟩; refine fit_c ge (by omega) fun h6 E6 => ?_
  have s := s.mono E6
  have ga := (s.pull 2 rfl).rd
  have gb := (s.pull 1 rfl).rd
  have ev : makeM (addW (shlM (wideM a.n) (kM a b - a.k.toNat)) (shlM (wideM b.n) (kM a b - b.k.toNat))).val (kM a b) = sumM' a b := by
    rw [addW_val, shl_valM, shl_valM, wideM_val, wideM_val]; rfl
  rw [ev, optV_eq]
  simp (disch := omega) only [VW, VY, VZ, VA, VB, VC, VE, TY, ↓reduceIte, Nat.reduceEqDiff, Nat.reduceAdd, Nat.reduceMul, Nat.reduceSub, Nat.reduceLeDiff, List.length_cons, List.length_nil, List.length_append, List.append_assoc, List.take_succ_cons, List.take_zero, List.drop_succ_cons, List.drop_zero, List.set_cons_zero, List.set_cons_succ, true_or, or_true, and_self, Bool.false_eq_true, Nat.le_refl, Option.bind_some, Option.map_some, Option.getD_some, Option.isSome_some, List.map_cons, List.map_nil, List.cons_append, List.nil_append, List.append_nil, List.getElem?_cons_zero, List.getElem?_cons_succ, eq_self, Int.reduceLT, Int.reduceLE, Int.reduceNeg, Int.reduceEq, ga, gb]
  refine sep_store (s.pull 0 rfl) (by simp) fun h7 s => ?_
  have s := s.as (ds := dyC ((sumM' a b).getD ⟨0, 0⟩)) (by simp [t_put])
  have gz := (s.pull 0 rfl).rdAll (n := 2) rfl
  have ga := (s.pull 2 rfl).rd
  have gb := (s.pull 1 rfl).rd
  simp (disch := omega) only [VW, VY, VZ, VA, VB, VC, VE, TY, ↓reduceIte, Nat.reduceEqDiff, Nat.reduceAdd, Nat.reduceMul, Nat.reduceSub, Nat.reduceLeDiff, List.length_cons, List.length_nil, List.length_append, List.append_assoc, List.take_succ_cons, List.take_zero, List.drop_succ_cons, List.drop_zero, List.set_cons_zero, List.set_cons_succ, true_or, or_true, and_self, Bool.false_eq_true, Nat.le_refl, Option.bind_some, Option.map_some, Option.getD_some, Option.isSome_some, List.map_cons, List.map_nil, List.cons_append, List.nil_append, List.append_nil, List.getElem?_cons_zero, List.getElem?_cons_succ, eq_self, Int.reduceLT, Int.reduceLE, Int.reduceNeg, Int.reduceEq, ga, gb, gz]
  exact hQ _ s.ext
/-! ### the spec's -/
theorem shl_i (k : Nat) (h : k ≤ 62) : IntKind.wrap .i64 ((1 : Int) * 2 ^ min k 64) = 2 ^ k := by
  have e : min k 64 = k := by omega
  rw [e, Int.one_mul]
  have h1 : (2 : Nat) ^ k ≤ 2 ^ 62 := Nat.pow_le_pow_right (by decide) h
  have e2 : (2 : Nat) ^ 62 = 4611686018427387904 := by decide
  have e3 : ((2 ^ k : Nat) : Int) = (2 : Int) ^ k := by simp
  rw [← e3]
  generalize (2 : Nat) ^ k = p at h1
  exact wrap_in _ (by omega)
theorem dyPow_c {k : Nat} {h : Heap} {Q : Value → Heap → Prop} (hk : k ≤ 62) (hQ : Q (.int .i64 (2 ^ k)) h) : CallsV Try.prog 88 [.int .i64 k] h Q := by
  refine CallsV.start Try.func88 rfl (by rw [Try.results88]) (by kernel_rfl) (by rw [Try.ntmps88]; simp) ?_
  have e := shl_i k hk
  have n1 : ¬ (k : Int) < 0 := by omega
  have b64 : IntKind.i64.bits = 64 := rfl
  simp (disch := omega) only [VW, VY, VZ, VA, VB, VC, VE, TY, ↓reduceIte, Nat.reduceEqDiff, Nat.reduceAdd, Nat.reduceMul, Nat.reduceSub, Nat.reduceLeDiff, List.length_cons, List.length_nil, List.length_append, List.append_assoc, List.take_succ_cons, List.take_zero, List.drop_succ_cons, List.drop_zero, List.set_cons_zero, List.set_cons_succ, true_or, or_true, and_self, Bool.false_eq_true, Nat.le_refl, Option.bind_some, Option.map_some, Option.getD_some, Option.isSome_some, List.map_cons, List.map_nil, List.cons_append, List.nil_append, List.append_nil, List.getElem?_cons_zero, List.getElem?_cons_succ, eq_self, Int.reduceLT, Int.reduceLE, Int.reduceNeg, Int.reduceEq, wrapu_in, n1, b64, e]
  exact hQ
theorem dyGood_c {d : Dy} {h : Heap} {Q : Value → Heap → Prop} (hQ : ∀ h', Ext h h' → Q (.bool (dyM d)) h') : CallsV Try.prog 121 [.agg (dyC d).toArray] h Q := by
  refine CallsV.start Try.func121 rfl (by rw [Try.results121]) (by kernel_rfl) (by rw [Try.ntmps121]; simp) ?_
  have s := Sep.blk1 h (dyC d) 39 true
  have g := s.rd
  unfold dyM at hQ
  simp (disch := omega) only [VW, VY, VZ, VA, VB, VC, VE, TY, ↓reduceIte, Nat.reduceEqDiff, Nat.reduceAdd, Nat.reduceMul, Nat.reduceSub, Nat.reduceLeDiff, List.length_cons, List.length_nil, List.length_append, List.append_assoc, List.take_succ_cons, List.take_zero, List.drop_succ_cons, List.drop_zero, List.set_cons_zero, List.set_cons_succ, true_or, or_true, and_self, Bool.false_eq_true, Nat.le_refl, Option.bind_some, Option.map_some, Option.getD_some, Option.isSome_some, List.map_cons, List.map_nil, List.cons_append, List.nil_append, List.append_nil, List.getElem?_cons_zero, List.getElem?_cons_succ, eq_self, Int.reduceLT, Int.reduceLE, Int.reduceNeg, Int.reduceEq, g]
  refine .inl ⟨by kernel_rfl, ?_⟩; refine l1In_c ?_
  by_cases c1 : 0 ≤ d.k ∧ d.k ≤ 24
  · have d1 := decide_eq_true c1
    rw [d1] at hQ ⊢
    simp (disch := omega) only [VW, VY, VZ, VA, VB, VC, VE, TY, ↓reduceIte, Nat.reduceEqDiff, Nat.reduceAdd, Nat.reduceMul, Nat.reduceSub, Nat.reduceLeDiff, List.length_cons, List.length_nil, List.length_append, List.append_assoc, List.take_succ_cons, List.take_zero, List.drop_succ_cons, List.drop_zero, List.set_cons_zero, List.set_cons_succ, true_or, or_true, and_self, Bool.false_eq_true, Nat.le_refl, Option.bind_some, Option.map_some, Option.getD_some, Option.isSome_some, List.map_cons, List.map_nil, List.cons_append, List.nil_append, List.append_nil, List.getElem?_cons_zero, List.getElem?_cons_succ, eq_self, Int.reduceLT, Int.reduceLE, Int.reduceNeg, Int.reduceEq, g]
    refine .inl ⟨by kernel_rfl, ?_⟩; refine l1In_c ?_
    by_cases c2 : -1099511627776 ≤ d.n ∧ d.n ≤ 1099511627776
    · have d2 := decide_eq_true c2
      rw [d2] at hQ ⊢
      simp (disch := omega) only [VW, VY, VZ, VA, VB, VC, VE, TY, ↓reduceIte, Nat.reduceEqDiff, Nat.reduceAdd, Nat.reduceMul, Nat.reduceSub, Nat.reduceLeDiff, List.length_cons, List.length_nil, List.length_append, List.append_assoc, List.take_succ_cons, List.take_zero, List.drop_succ_cons, List.drop_zero, List.set_cons_zero, List.set_cons_succ, true_or, or_true, and_self, Bool.false_eq_true, Nat.le_refl, Option.bind_some, Option.map_some, Option.getD_some, Option.isSome_some, List.map_cons, List.map_nil, List.cons_append, List.nil_append, List.append_nil, List.getElem?_cons_zero, List.getElem?_cons_succ, eq_self, Int.reduceLT, Int.reduceLE, Int.reduceNeg, Int.reduceEq, g]
      by_cases c3 : d.k = 0
      · have d3 := decide_eq_true c3
        rw [d3] at hQ
        simp (disch := omega) only [VW, VY, VZ, VA, VB, VC, VE, TY, ↓reduceIte, Nat.reduceEqDiff, Nat.reduceAdd, Nat.reduceMul, Nat.reduceSub, Nat.reduceLeDiff, List.length_cons, List.length_nil, List.length_append, List.append_assoc, List.take_succ_cons, List.take_zero, List.drop_succ_cons, List.drop_zero, List.set_cons_zero, List.set_cons_succ, true_or, or_true, and_self, Bool.false_eq_true, Nat.le_refl, Option.bind_some, Option.map_some, Option.getD_some, Option.isSome_some, List.map_cons, List.map_nil, List.cons_append, List.nil_append, List.append_nil, List.getElem?_cons_zero, List.getElem?_cons_succ, eq_self, Int.reduceLT, Int.reduceLE, Int.reduceNeg, Int.reduceEq, c3, d3, g]
        exact hQ _ s.ext
      · have d3 := decide_eq_false c3
        rw [d3] at hQ
        simp (disch := omega) only [VW, VY, VZ, VA, VB, VC, VE, TY, ↓reduceIte, Nat.reduceEqDiff, Nat.reduceAdd, Nat.reduceMul, Nat.reduceSub, Nat.reduceLeDiff, List.length_cons, List.length_nil, List.length_append, List.append_assoc, List.take_succ_cons, List.take_zero, List.drop_succ_cons, List.drop_zero, List.set_cons_zero, List.set_cons_succ, true_or, or_true, and_self, Bool.false_eq_true, Nat.le_refl, Option.bind_some, Option.map_some, Option.getD_some, Option.isSome_some, List.map_cons, List.map_nil, List.cons_append, List.nil_append, List.append_nil, List.getElem?_cons_zero, List.getElem?_cons_succ, eq_self, Int.reduceLT, Int.reduceLE, Int.reduceNeg, Int.reduceEq, c3, d3, g]
        simpa using hQ _ s.ext
    · have d2 := decide_eq_false c2
      rw [d2] at hQ ⊢
      simp (disch := omega) only [VW, VY, VZ, VA, VB, VC, VE, TY, ↓reduceIte, Nat.reduceEqDiff, Nat.reduceAdd, Nat.reduceMul, Nat.reduceSub, Nat.reduceLeDiff, List.length_cons, List.length_nil, List.length_append, List.append_assoc, List.take_succ_cons, List.take_zero, List.drop_succ_cons, List.drop_zero, List.set_cons_zero, List.set_cons_succ, true_or, or_true, and_self, Bool.false_eq_true, Nat.le_refl, Option.bind_some, Option.map_some, Option.getD_some, Option.isSome_some, List.map_cons, List.map_nil, List.cons_append, List.nil_append, List.append_nil, List.getElem?_cons_zero, List.getElem?_cons_succ, eq_self, Int.reduceLT, Int.reduceLE, Int.reduceNeg, Int.reduceEq, g]
      exact hQ _ s.ext
  · have d1 := decide_eq_false c1
    rw [d1] at hQ ⊢
    simp (disch := omega) only [VW, VY, VZ, VA, VB, VC, VE, TY, ↓reduceIte, Nat.reduceEqDiff, Nat.reduceAdd, Nat.reduceMul, Nat.reduceSub, Nat.reduceLeDiff, List.length_cons, List.length_nil, List.length_append, List.append_assoc, List.take_succ_cons, List.take_zero, List.drop_succ_cons, List.drop_zero, List.set_cons_zero, List.set_cons_succ, true_or, or_true, and_self, Bool.false_eq_true, Nat.le_refl, Option.bind_some, Option.map_some, Option.getD_some, Option.isSome_some, List.map_cons, List.map_nil, List.cons_append, List.nil_append, List.append_nil, List.getElem?_cons_zero, List.getElem?_cons_succ, eq_self, Int.reduceLT, Int.reduceLE, Int.reduceNeg, Int.reduceEq, g]
    exact hQ _ s.ext
end Go.Proofs

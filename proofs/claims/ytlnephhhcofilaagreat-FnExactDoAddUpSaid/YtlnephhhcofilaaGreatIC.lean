/- Contracts of functions, facts of types, or the plain law behind one statement (own work): IC. Conditions: those told in each theorem. -/
import Derived.Test.YtlnephhhcofilaaGreatYM0
import Derived.Test.YtlnephhhcofilaaGreatMD
import Derived.Lib.Mul64
set_option linter.all false
set_option linter.unusedSimpArgs false
set_option linter.unusedVariables false
set_option maxRecDepth 4000
namespace Go.Proofs
open Go Go.V
open Nat (reduceEqDiff reduceAdd reduceMul reduceSub reduceLeDiff)
open Int (reduceLT reduceLE reduceNeg reduceEq)
/- Products of dyadic numbers. -/
theorem b_and (n : Nat) (k : IntKind) (a b : Int) : binV .and n (.int k a) (.int k b) = bitsV .and k a b := by simp [binV, intV]
theorem and32_u (a : Nat) (ha : a < 18446744073709551616) : bitsV .and .u64 (a : Int) 4294967295 = some (.int .u64 ((a % 4294967296 : Nat) : Int)) := by
  have e : a &&& 4294967295 = a % 4294967296 := Nat.and_two_pow_sub_one_eq_mod a 32
  have hx : (BitVec.ofInt 64 (a : Int)).toNat = a := by
    rw [BitVec.toNat_ofInt]; omega
  have hy : (BitVec.ofInt 64 4294967295).toNat = 4294967295 := by decide
  show some (Value.int .u64 (IntKind.wrap .u64 ((BitVec.ofInt 64 (a : Int) &&& BitVec.ofInt 64 4294967295 : BitVec 64).toNat))) = _
  rw [BitVec.toNat_and, hx, hy, e, wrapu_nat _ (by omega)]
theorem shr32_u (a : Nat) : Int.fdiv (a : Int) 4294967296 = ((a / 4294967296 : Nat) : Int) := by
  rw [Int.fdiv_eq_ediv_of_nonneg _ (by decide)]; rfl
theorem shr32_u' (a : Nat) : Int.fdiv (a : Int) (2 ^ min 32 64) = ((a / 4294967296 : Nat) : Int) := by
  have : (2 : Int) ^ min 32 64 = 4294967296 := by decide
  rw [this]; exact shr32_u a
theorem mul_nn (a b : Nat) : (a : Int) * (b : Int) = ((a * b : Nat) : Int) := (Int.natCast_mul a b).symm
theorem add_nn (a b : Nat) : (a : Int) + (b : Int) = ((a + b : Nat) : Int) := (Int.natCast_add a b).symm
theorem mul64_c {x y : Nat} {h : Heap} {Q : Value → Heap → Prop} (hx : x < 18446744073709551616) (hy : y < 18446744073709551616)
    (hQ : Q (.tuple #[.int .u64 ((x * y / 18446744073709551616 : Nat) : Int), .int .u64 ((x * y % 18446744073709551616 : Nat) : Int)]) h) :
    CallsV Tryz.prog 167 [.int .u64 x, .int .u64 y] h Q := by
  refine CallsV.start Tryz.func167 rfl (by rw [Tryz.results167]) (by kernel_rfl) (by rw [Tryz.ntmps167]; simp) ?_
  obtain ⟨bd, bt, bw, hhi⟩ := Lib.mul64_hi x y hx hy
  have ba := Lib.half_mul_le (a := x / 4294967296) (b := y / 4294967296) (by omega) (by omega)
  have bb := Lib.half_mul_le (a := x / 4294967296) (b := y % 4294967296) (by omega) (by omega)
  have bc := Lib.half_mul_le (a := x % 4294967296) (b := y / 4294967296) (by omega) (by omega)
  have ba' : x / 4294967296 * (y / 4294967296) < 18446744073709551616 := by omega
  have bb' : x / 4294967296 * (y % 4294967296) < 18446744073709551616 := by omega
  have bc' : x % 4294967296 * (y / 4294967296) < 18446744073709551616 := by omega
  have bh1 : x / 4294967296 * (y / 4294967296) + (x / 4294967296 * (y % 4294967296) + x % 4294967296 * (y % 4294967296) / 4294967296) / 4294967296 < 18446744073709551616 := by omega
  have bh : x / 4294967296 * (y / 4294967296) + (x / 4294967296 * (y % 4294967296) + x % 4294967296 * (y % 4294967296) / 4294967296) / 4294967296 + ((x / 4294967296 * (y % 4294967296) + x % 4294967296 * (y % 4294967296) / 4294967296) % 4294967296 + x % 4294967296 * (y / 4294967296)) / 4294967296 < 18446744073709551616 := by omega
  have n32 : ¬ (32 : Int) < 0 := by decide
  have n32b : ¬ (64 : Int) ≤ 32 := by decide
  have t32 : Int.toNat 32 = 32 := rfl
  have m1 := and32_u x hx
  have m2 := and32_u y hy
  have m3 := and32_u _ bt
  simp (disch := omega) only [WA, ↓reduceIte, reduceEqDiff, reduceAdd, reduceMul, reduceSub, reduceLeDiff, reduceLT, reduceLE, reduceNeg, reduceEq, b_and, m1, m2, n32, t32, ubits, shr32_u']
  have w1 := wrapu_nat _ bd
  have w2 := wrapu_nat _ bb'
  have w3 := wrapu_nat _ bt
  have w4 := wrapu_nat _ bc'
  have w5 := wrapu_nat _ bw
  have w6 := wrapu_nat _ ba'
  have w7 := wrapu_nat _ bh1
  have w8 := wrapu_nat _ bh
  have w9 := wrapu_mod (x * y)
  simp (disch := omega) only [WA, ↓reduceIte, reduceEqDiff, reduceAdd, reduceMul, reduceSub, reduceLeDiff, reduceLT, reduceLE, reduceNeg, reduceEq, mul_nn, add_nn, w1, w2, w3, w4, w5, w6, w7, w8, w9, b_and, m3, shr32_u', n32, t32, ubits, hhi]
  rw [hhi] at bh
  rw [wrapu_nat _ bh]
  exact hQ
def timesM (a b : Int) : Wd := wdOf (decide (a < 0) != decide (b < 0)) (a.natAbs * b.natAbs)
theorem timesM_val (a b : Int) : (timesM a b).val = a * b := by
  unfold timesM
  rw [wdOf_val]
  have hm : (a * b).natAbs = a.natAbs * b.natAbs := Int.natAbs_mul a b
  rw [← hm]
  by_cases c1 : a < 0 <;> by_cases c2 : b < 0
  · have := Int.mul_pos_of_neg_of_neg c1 c2; simp [c1, c2]; omega
  · have := Int.mul_nonpos_of_nonpos_of_nonneg (Int.le_of_lt c1) (show 0 ≤ b by omega); simp [c1, c2]; omega
  · have := Int.mul_nonpos_of_nonneg_of_nonpos (show 0 ≤ a by omega) (Int.le_of_lt c2); simp [c1, c2]; omega
  · have := Int.mul_nonneg (show 0 ≤ a by omega) (show 0 ≤ b by omega); simp [c1, c2]; omega
theorem timesM_G {a b : Int} (ha : a.natAbs ≤ 1099511627776) (hb : b.natAbs ≤ 1099511627776) : (timesM a b).G := by
  have := Nat.mul_le_mul ha hb
  exact wdOf_G _ (by omega)
theorem timesWide_c {a b : Int} {h : Heap} {Q : Value → Heap → Prop} (ha : a.natAbs ≤ 1099511627776) (hb : b.natAbs ≤ 1099511627776)
    (hQ : ∀ h', Ext h h' → Q (.agg (timesM a b).cs.toArray) h') : CallsV Tryz.prog 164 [.int .i64 a, .int .i64 b] h Q := by
  refine CallsV.start Tryz.func164 rfl (by rw [Tryz.results164]) (by kernel_rfl) (by rw [Tryz.ntmps164]; simp) ?_
  have ecs : (timesM a b).cs = [.bool (decide (a < 0) != decide (b < 0)), .int .u64 ((a.natAbs * b.natAbs / 18446744073709551616 : Nat) : Int), .int .u64 ((a.natAbs * b.natAbs % 18446744073709551616 : Nat) : Int)] := wdOf_cs _ _
  rw [ecs] at hQ
  simp (disch := omega) only [WA, ↓reduceIte, reduceEqDiff, reduceAdd, reduceMul, reduceSub, reduceLeDiff, reduceLT, reduceLE, reduceNeg, reduceEq]
  refine .inl ⟨by kernel_rfl, ?_⟩; refine size_c (by omega) ?_
  simp (disch := omega) only [WA, ↓reduceIte, reduceEqDiff, reduceAdd, reduceMul, reduceSub, reduceLeDiff, reduceLT, reduceLE, reduceNeg, reduceEq]
  refine .inl ⟨by kernel_rfl, ?_⟩; refine size_c (by omega) ?_
  simp (disch := omega) only [WA, ↓reduceIte, reduceEqDiff, reduceAdd, reduceMul, reduceSub, reduceLeDiff, reduceLT, reduceLE, reduceNeg, reduceEq]
  refine .inl ⟨by kernel_rfl, ?_⟩; refine mul64_c (by omega) (by omega) ?_
  simp (disch := omega) only [WA, ↓reduceIte, reduceEqDiff, reduceAdd, reduceMul, reduceSub, reduceLeDiff, reduceLT, reduceLE, reduceNeg, reduceEq]
  exact hQ _ (.one _ _)
theorem productOf_c {a b : Dy} {h : Heap} {Q : Value → Heap → Prop} (ha : DyG a) (hb : DyG b) (hQ : ∀ h', Ext h h' → Q (optV (mulM a b)) h') :
    CallsV Tryz.prog 158 [.agg (dyC a).toArray, .agg (dyC b).toArray] h Q := by
  refine CallsV.start Tryz.func158 rfl (by rw [Tryz.results158]) (by kernel_rfl) (by rw [Tryz.ntmps158]; simp) ?_
  have s := Sep.blk3 h (dyC a) (dyC b) [.int .i64 0, .int .i64 0] 97 97 97 true true true
  have a0 := ha.n0
  have a1 := ha.n1
  have b0 := hb.n0
  have b1 := hb.n1
  have ak0 := ha.k0
  have ak1 := ha.k1
  have bk0 := hb.k0
  have bk1 := hb.k1
  have ga := (s.pull 2 rfl).rd
  have gb := (s.pull 1 rfl).rd
  have ek : a.k + b.k = ((a.k.toNat + b.k.toNat : Nat) : Int) := by omega
  simp (disch := omega) only [WA, ↓reduceIte, reduceEqDiff, reduceAdd, reduceMul, reduceSub, reduceLeDiff, reduceLT, reduceLE, reduceNeg, reduceEq, ga, gb]
  refine draw_ord [0, 1, 2, 3, 5, 6, 7, 8, 9, 4, 10, 11, 12, 13, 14] (by kernel_rfl) (by simp only [List.filterMap_cons, List.filterMap_nil, List.getElem?_cons_zero, List.getElem?_cons_succ]; rfl) ?_
  simp (disch := omega) only [WA, ↓reduceIte, reduceEqDiff, reduceAdd, reduceMul, reduceSub, reduceLeDiff, reduceLT, reduceLE, reduceNeg, reduceEq, ga, gb]
  refine .inl ⟨by kernel_rfl, ?_⟩; refine timesWide_c (by omega) (by omega) fun h1 E1 => ?_
  have s := s.mono E1
  have ga := (s.pull 2 rfl).rd
  have gb := (s.pull 1 rfl).rd
  simp (disch := omega) only [WA, ↓reduceIte, reduceEqDiff, reduceAdd, reduceMul, reduceSub, reduceLeDiff, reduceLT, reduceLE, reduceNeg, reduceEq, ga, gb, ek, wrap_in]
  refine .inl ⟨by kernel_rfl, ?_⟩; refine fit_c (timesM_G (by omega) (by omega)) (by omega) fun h6 E6 => ?_
  have s := s.mono E6
  have ga := (s.pull 2 rfl).rd
  have gb := (s.pull 1 rfl).rd
  have ev : makeM (timesM a.n b.n).val (a.k.toNat + b.k.toNat) = mulM a b := by
    rw [timesM_val]; rfl
  rw [ev, optV_eq]
  simp (disch := omega) only [WA, ↓reduceIte, reduceEqDiff, reduceAdd, reduceMul, reduceSub, reduceLeDiff, reduceLT, reduceLE, reduceNeg, reduceEq, ga, gb]
  refine sep_store (s.pull 0 rfl) (by simp) fun h7 s => ?_
  have s := s.as (ds := dyC ((mulM a b).getD ⟨0, 0⟩)) (by simp [t_put])
  have gz := (s.pull 0 rfl).rdAll (n := 2) rfl
  have ga := (s.pull 2 rfl).rd
  have gb := (s.pull 1 rfl).rd
  simp (disch := omega) only [WA, ↓reduceIte, reduceEqDiff, reduceAdd, reduceMul, reduceSub, reduceLeDiff, reduceLT, reduceLE, reduceNeg, reduceEq, ga, gb, gz]
  exact hQ _ s.ext
/-- A result that is kept: while all went well. -/
def keepM (p : Bool) (o : Option Dy) : Dy := if (p && o.isSome) = true then o.getD ⟨0, 0⟩ else ⟨0, 0⟩
theorem keepM_good {p : Bool} {o : Option Dy} (h : ∀ d, o = some d → DyG d) : DyG (keepM p o) := by
  unfold keepM
  split
  · exact getD_good h
  · exact good0
theorem keepM_some {d : Dy} : keepM true (some d) = d := rfl
theorem rproduct_c {a h : Heap} {b : Nat} {L : List Asr} {p : Bool} {x y : Dy} {Q : Value → Heap → Prop} (s : Sep a h (blkA b [.bool p] 149 :: L)) (hx : DyG x) (hy : DyG y)
    (hQ : ∀ h', Sep a h' (blkA b [.bool (p && (mulM x y).isSome)] 149 :: L) → Q (.agg (dyC (keepM p (mulM x y))).toArray) h') :
    CallsV Tryz.prog 150 [.pointer (some ⟨b, 0, none⟩), .agg (dyC x).toArray, .agg (dyC y).toArray] h Q := by
  refine CallsV.start Tryz.func150 rfl (by rw [Tryz.results150]) (by kernel_rfl) (by rw [Tryz.ntmps150]; simp) ?_
  have s := ((s.newBlk (dyC x) 97 true).newBlk (dyC y) 97 true).newBlk [.int .i64 0, .int .i64 0] 97 true
  simp only [List.append_assoc, List.cons_append, List.nil_append, List.length_append, List.length_cons, List.length_nil, Nat.reduceAdd] at s
  have ga := (s.pull 2 rfl).rdAll (n := 2) rfl
  have gb := (s.pull 1 rfl).rdAll (n := 2) rfl
  simp (disch := omega) only [WA, ↓reduceIte, reduceEqDiff, reduceAdd, reduceMul, reduceSub, reduceLeDiff, reduceLT, reduceLE, reduceNeg, reduceEq, ga, gb]
  refine .inl ⟨by kernel_rfl, ?_⟩; refine productOf_c hx hy fun h1 E1 => ?_
  have s := s.mono E1
  rw [optV_eq]
  simp (disch := omega) only [WA, ↓reduceIte, reduceEqDiff, reduceAdd, reduceMul, reduceSub, reduceLeDiff, reduceLT, reduceLE, reduceNeg, reduceEq]
  refine .inl ⟨by kernel_rfl, ?_⟩; refine keep_c (s.pull 3 rfl) fun h2 s => ?_
  simp (disch := omega) only [WA, ↓reduceIte, reduceEqDiff, reduceAdd, reduceMul, reduceSub, reduceLeDiff, reduceLT, reduceLE, reduceNeg, reduceEq]
  refine sep_store (s.pull 1 rfl) (by simp) fun h3 s => ?_
  have s := s.as (ds := dyC (keepM p (mulM x y))) (by simp [t_put, keepM])
  have gz := s.rdAll (n := 2) rfl
  simp (disch := omega) only [WA, ↓reduceIte, reduceEqDiff, reduceAdd, reduceMul, reduceSub, reduceLeDiff, reduceLT, reduceLE, reduceNeg, reduceEq, gz]
  exact hQ _ ((s.tail).swap.tail.swap.tail)
theorem rsumP_c {a h : Heap} {b : Nat} {L : List Asr} {p : Bool} {x y : Dy} {Q : Value → Heap → Prop} (s : Sep a h (blkA b [.bool p] 149 :: L)) (hx : DyG x) (hy : DyG y)
    (hQ : ∀ h', Sep a h' (blkA b [.bool (p && (sumM' x y).isSome)] 149 :: L) → Q (.agg (dyC (keepM p (sumM' x y))).toArray) h') :
    CallsV Tryz.prog 152 [.pointer (some ⟨b, 0, none⟩), .agg (dyC x).toArray, .agg (dyC y).toArray] h Q := by
  refine CallsV.start Tryz.func152 rfl (by rw [Tryz.results152]) (by kernel_rfl) (by rw [Tryz.ntmps152]; simp) ?_
  have s := ((s.newBlk (dyC x) 97 true).newBlk (dyC y) 97 true).newBlk [.int .i64 0, .int .i64 0] 97 true
  simp only [List.append_assoc, List.cons_append, List.nil_append, List.length_append, List.length_cons, List.length_nil, Nat.reduceAdd] at s
  have ga := (s.pull 2 rfl).rdAll (n := 2) rfl
  have gb := (s.pull 1 rfl).rdAll (n := 2) rfl
  simp (disch := omega) only [WA, ↓reduceIte, reduceEqDiff, reduceAdd, reduceMul, reduceSub, reduceLeDiff, reduceLT, reduceLE, reduceNeg, reduceEq, ga, gb]
  refine .inl ⟨by kernel_rfl, ?_⟩; refine sumOf_c hx hy fun h1 E1 => ?_
  have s := s.mono E1
  rw [optV_eq]
  simp (disch := omega) only [WA, ↓reduceIte, reduceEqDiff, reduceAdd, reduceMul, reduceSub, reduceLeDiff, reduceLT, reduceLE, reduceNeg, reduceEq]
  refine .inl ⟨by kernel_rfl, ?_⟩; refine keep_c (s.pull 3 rfl) fun h2 s => ?_
  simp (disch := omega) only [WA, ↓reduceIte, reduceEqDiff, reduceAdd, reduceMul, reduceSub, reduceLeDiff, reduceLT, reduceLE, reduceNeg, reduceEq]
  refine sep_store (s.pull 1 rfl) (by simp) fun h3 s => ?_
  have s := s.as (ds := dyC (keepM p (sumM' x y))) (by simp [t_put, keepM])
  have gz := s.rdAll (n := 2) rfl
  simp (disch := omega) only [WA, ↓reduceIte, reduceEqDiff, reduceAdd, reduceMul, reduceSub, reduceLeDiff, reduceLT, reduceLE, reduceNeg, reduceEq, gz]
  exact hQ _ ((s.tail).swap.tail.swap.tail)
end Go.Proofs

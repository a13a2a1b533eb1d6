/- Contracts of functions, facts of types, or the plain law behind one statement (own work): YJ. Conditions: those told in each theorem. -/
import Derived.Test.YtlnephhhcofilaaGreatMC
set_option linter.all false
set_option linter.unusedSimpArgs false
set_option linter.unusedVariables false
set_option maxRecDepth 4000
namespace Go.Proofs
open Go Go.V
open Nat renaming reduceEqDiff → jA, reduceAdd → jB, reduceMul → jD, reduceSub → jE, reduceLeDiff → jF
open Int renaming reduceLT → jG, reduceLE → jH, reduceNeg → jI, reduceEq → jJ
theorem l1Most_c {a b : Int} {h : Heap} {Q : Value → Heap → Prop} (hQ : Q (.int .i64 (max a b)) h) : CallsV Tryz.prog 98 [.int .i64 a, .int .i64 b] h Q := by
  refine CallsV.start Tryz.func98 rfl (by rw [Tryz.results98]) (by kernel_rfl) (by rw [Tryz.ntmps98]; simp) ?_
  by_cases c : b < a
  · have e : max a b = a := by omega
    rw [e] at hQ
    simp (disch := omega) only [WA, ↓reduceIte, jA, jB, jD, jE, jF, jG, jH, jI, jJ, c]
    exact hQ
  · have e : max a b = b := by omega
    rw [e] at hQ
    simp (disch := omega) only [WA, ↓reduceIte, jA, jB, jD, jE, jF, jG, jH, jI, jJ, c]
    exact hQ
theorem sum_atM {a b : Dy} (ha : DyG a) (hb : DyG b) : sumM' a b = (if (atM a (kM a b)).isSome = true ∧ (atM b (kM a b)).isSome = true then makeM ((atM a (kM a b)).getD 0 + (atM b (kM a b)).getD 0) (kM a b) else none) := by
  have key : ∀ x y : Dy, DyG x → DyG y → (atM x (kM x y)).isSome = false → sumM' x y = none := by
    intro x y hx hy hn
    unfold atM at hn
    split at hn
    · cases hn
    · split at hn
      · rename_i h1 h2
        exact sum_far hx hy h1 h2.1 h2.2
      · cases hn
  have some_at : ∀ x : Dy, ∀ k, (atM x k).isSome = true → (atM x k).getD 0 = upM x k := by
    intro x k hs
    unfold atM at hs ⊢
    split
    · rename_i h1
      unfold upM; rw [h1]; simp
    · rename_i h1
      rw [if_neg h1] at hs
      split
      · rename_i h2
        rw [if_pos h2] at hs; cases hs
      · rfl
  have hk : kM a b = kM b a := by unfold kM; omega
  by_cases c1 : (atM a (kM a b)).isSome = true
  · by_cases c2 : (atM b (kM a b)).isSome = true
    · rw [if_pos ⟨c1, c2⟩, some_at a _ c1, some_at b _ c2]
      rfl
    · rw [if_neg (fun h => c2 h.2), sumM_comm]
      rw [hk] at c2
      exact key b a hb ha (by simpa using c2)
  · rw [if_neg (fun h => c1 h.1)]
    exact key a b ha hb (by simpa using c1)
theorem atM_le {a : Dy} (ha : DyG a) {k : Nat} (hk : a.k.toNat ≤ k) : -2305843009213693952 ≤ (atM a k).getD 0 ∧ (atM a k).getD 0 ≤ 2305843009213693952 := by
  have h0 := ha.n0
  have h1 := ha.n1
  unfold atM
  split
  · exact ⟨by decide, by decide⟩
  · split
    · exact ⟨by decide, by decide⟩
    · rename_i h2
      show -2305843009213693952 ≤ upM a k ∧ upM a k ≤ 2305843009213693952
      unfold upM
      by_cases c : a.k.toNat < k
      · have hn : nearB (a.n * 2 ^ (k - a.k.toNat - 1)) := Decidable.not_not.1 (fun e => h2 ⟨c, e⟩)
        rw [show k - a.k.toNat = (k - a.k.toNat - 1) + 1 by omega, Int.pow_succ, ← Int.mul_assoc]
        unfold nearB at hn
        omega
      · rw [show k - a.k.toNat = 0 by omega, Int.pow_zero, Int.mul_one]
        omega
theorem dyAdd_c {a b : Dy} {h : Heap} {Q : Value → Heap → Prop} (ha : DyG a) (hb : DyG b) (hQ : ∀ h', Ext h h' → Q (optV (sumM' a b)) h') :
    CallsV Tryz.prog 147 [.agg (dyC a).toArray, .agg (dyC b).toArray] h Q := by
  refine CallsV.start Tryz.func147 rfl (by rw [Tryz.results147]) (by kernel_rfl) (by rw [Tryz.ntmps147]; simp) ?_
  have s := Sep.blk3 h (dyC a) (dyC b) [.int .i64 0, .int .i64 0] 97 97 97 true true true
  have hk := kM_le ha hb
  have hka := ha.k0
  have hkb := hb.k0
  have ga := (s.pull 2 rfl).rd
  have gb := (s.pull 1 rfl).rd
  have em : max a.k b.k = ((kM a b : Nat) : Int) := by unfold kM; omega
  have la := atM_le ha (k := kM a b) (by unfold kM; omega)
  have lb := atM_le hb (k := kM a b) (by unfold kM; omega)
  rw [sum_atM ha hb] at hQ
  simp (disch := omega) only [WA, ↓reduceIte, jA, jB, jD, jE, jF, jG, jH, jI, jJ, ga, gb]
  refine .inl ⟨by kernel_rfl, ?_⟩; refine l1Most_c ?_
  have gaa := (s.pull 2 rfl).rdAll (n := 2) rfl
  rw [em]
  simp (disch := omega) only [WA, ↓reduceIte, jA, jB, jD, jE, jF, jG, jH, jI, jJ, gaa]
  refine .inl ⟨by kernel_rfl, ?_⟩; refine dyAt_c ha (by omega) fun h1 E1 => ?_
  have s := s.mono E1
  have gbb := (s.pull 1 rfl).rdAll (n := 2) rfl
  rw [optI_eq]
  simp (disch := omega) only [WA, ↓reduceIte, jA, jB, jD, jE, jF, jG, jH, jI, jJ, gbb]
  refine .inl ⟨by kernel_rfl, ?_⟩; refine dyAt_c hb (by omega) fun h2 E2 => ?_
  have s := s.mono E2
  rw [optI_eq]
  simp (disch := omega) only [WA, ↓reduceIte, jA, jB, jD, jE, jF, jG, jH, jI, jJ]
  by_cases c1 : (atM a (kM a b)).isSome = true
  · by_cases c2 : (atM b (kM a b)).isSome = true
    · rw [if_pos ⟨c1, c2⟩] at hQ
      simp (disch := omega) only [WA, ↓reduceIte, jA, jB, jD, jE, jF, jG, jH, jI, jJ, c1, c2, wrap_in]
      refine .inl ⟨by kernel_rfl, ?_⟩; refine dyMake_c ⟨by omega, by omega⟩ (by omega) fun h3 E3 => ?_
      have s := s.mono E3
      rw [optV_eq] at hQ ⊢
      simp (disch := omega) only [WA, ↓reduceIte, jA, jB, jD, jE, jF, jG, jH, jI, jJ]
      refine sep_store (s.pull 0 rfl) (by simp) fun h7 s => ?_
      have s := s.as (ds := dyC ((makeM ((atM a (kM a b)).getD 0 + (atM b (kM a b)).getD 0) (kM a b)).getD ⟨0, 0⟩)) (by simp [t_put])
      have gz := (s.pull 0 rfl).rdAll (n := 2) rfl
      simp (disch := omega) only [WA, ↓reduceIte, jA, jB, jD, jE, jF, jG, jH, jI, jJ, gz]
      exact hQ _ s.ext
    · have c2 : (atM b (kM a b)).isSome = false := by simpa using c2
      rw [if_neg (by rw [c2]; simp), optV_eq] at hQ
      simp (disch := omega) only [WA, ↓reduceIte, jA, jB, jD, jE, jF, jG, jH, jI, jJ, c1, c2]
      refine sep_store (s.pull 0 rfl) (by simp) fun h7 s => ?_
      have s := s.as (ds := [.int .i64 0, .int .i64 0]) (by simp [t_put])
      have gz := (s.pull 0 rfl).rdAll (n := 2) rfl
      simp (disch := omega) only [WA, ↓reduceIte, jA, jB, jD, jE, jF, jG, jH, jI, jJ, gz]
      exact hQ _ s.ext
  · have c1 : (atM a (kM a b)).isSome = false := by simpa using c1
    rw [if_neg (by rw [c1]; simp), optV_eq] at hQ
    simp (disch := omega) only [WA, ↓reduceIte, jA, jB, jD, jE, jF, jG, jH, jI, jJ, c1]
    refine sep_store (s.pull 0 rfl) (by simp) fun h7 s => ?_
    have s := s.as (ds := [.int .i64 0, .int .i64 0]) (by simp [t_put])
    have gz := (s.pull 0 rfl).rdAll (n := 2) rfl
    simp (disch := omega) only [WA, ↓reduceIte, jA, jB, jD, jE, jF, jG, jH, jI, jJ, gz]
    exact hQ _ s.ext
theorem dyMinus_c {a : Dy} {h : Heap} {Q : Value → Heap → Prop} (ha : DyG a) (hQ : ∀ h', Ext h h' → Q (.agg (dyC (negM a)).toArray) h') :
    CallsV Tryz.prog 162 [.agg (dyC a).toArray] h Q := by
  refine CallsV.start Tryz.func162 rfl (by rw [Tryz.results162]) (by kernel_rfl) (by rw [Tryz.ntmps162]; simp) ?_
  have h0 := ha.n0
  have h1 := ha.n1
  have s := Sep.blk2 h (dyC a) [.int .i64 0, .int .i64 0] 97 97 true true
  have g := (s.pull 1 rfl).rd
  simp (disch := omega) only [WA, ↓reduceIte, jA, jB, jD, jE, jF, jG, jH, jI, jJ, g, wrap_in]
  have e : dyC (negM a) = [.int .i64 (0 - a.n), .int .i64 a.k] := by unfold negM; simp only [Int.zero_sub]
  rw [e] at hQ
  exact hQ _ (.app _ _)
end Go.Proofs

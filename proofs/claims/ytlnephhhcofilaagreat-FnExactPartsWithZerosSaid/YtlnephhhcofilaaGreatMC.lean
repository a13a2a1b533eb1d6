/- The layer V and contracts of functions over it, or plain laws behind one statement (own work): MC=YH,YI,ZL. Conditions: those told in each theorem. -/
import Derived.Test.YtlnephhhcofilaaGreatMB
set_option linter.all false
section
set_option linter.unusedSimpArgs false
set_option linter.unusedVariables false
set_option maxRecDepth 4000
namespace Go.Proofs
open Go Go.V
open Nat renaming reduceEqDiff → jA, reduceAdd → jB, reduceMul → jD, reduceSub → jE, reduceLeDiff → jF
open Int renaming reduceLT → jG, reduceLE → jH, reduceNeg → jI, reduceEq → jJ
/- The spec's sums. -/
theorem makeM_strip {n : Int} (hn : n ≠ 0) {k m : Nat} {u : Int} (h : stripM n k = (u, m)) :
    makeM n k = if dyM ⟨u, m⟩ = true then some ⟨u, m⟩ else none := by
  unfold makeM
  rw [if_neg hn, h]
  have ho := stripM_odd' n k
  rw [h] at ho
  simp only [] at ho
  have hf : fitsB (u, m) = true ↔ dyM ⟨u, m⟩ = true := by
    rw [dyM_iff]
    unfold fitsB
    simp only [Bool.and_eq_true, decide_eq_true_eq]
    constructor
    · rintro ⟨h1, h2, h3⟩
      exact ⟨by simp only []; omega, by simp only []; omega, h2, h3, by simp only []; omega⟩
    · rintro ⟨h1, h2, h3, h4, h5⟩
      simp only [] at h1 h2 h3 h4
      exact ⟨by omega, h3, h4⟩
  by_cases c : fitsB (u, m) = true
  · rw [if_pos c, if_pos (hf.1 c)]
  · rw [if_neg c, if_neg (fun e => c (hf.2 e))]
theorem dyMake_c {n : Int} {k : Nat} {h : Heap} {Q : Value → Heap → Prop} (hn : inI64 n) (hk : k ≤ 1000) (hQ : ∀ h', Ext h h' → Q (optV (makeM n k)) h') :
    CallsV Tryz.prog 105 [.int .i64 n, .int .i64 k] h Q := by
  unfold inI64 at hn
  refine CallsV.start Tryz.func105 rfl (by rw [Tryz.results105]) (by kernel_rfl) (by rw [Tryz.ntmps105]; simp) ?_
  have s := Sep.blk1 h [.int .i64 0, .int .i64 0] 97 true
  by_cases c0 : n = 0
  · subst c0
    have hz : makeM 0 k = some ⟨0, 0⟩ := by unfold makeM; rw [if_pos rfl]
    rw [hz, optV_eq] at hQ
    by_cases c1 : 0 < (k : Int)
    · simp (disch := omega) only [WA, ↓reduceIte, jA, jB, jD, jE, jF, jG, jH, jI, jJ, c1]
      refine loop_rule (fun j e h' => e 0 = .int .i64 0 ∧ e 1 = .int .i64 0 ∧ e 4 = .pointer (some ⟨h.length, 0, none⟩) ∧ e 5 = .bool false ∧ Sep h h' [blkA h.length [.int .i64 0, .int .i64 0] 97]) ?_ 0 _ _ ⟨rfl, rfl, rfl, rfl, s⟩
      rintro j e h' ⟨e0, e1, e4, e5, s⟩
      simp (disch := omega) only [WA, ↓reduceIte, jA, jB, jD, jE, jF, jG, jH, jI, jJ, e0, e1]
      refine .inl ⟨by kernel_rfl, ?_⟩; refine dyGood_c (d := ⟨0, 0⟩) fun h1 E1 => ?_
      have s := (s.newBlk [.int .i64 0, .int .i64 0] 97 true).mono E1
      have g0 : dyM ⟨0, 0⟩ = true := by decide
      have ga := (s.pull 0 rfl).rdAll (n := 2) rfl
      simp (disch := omega) only [WA, ↓reduceIte, jA, jB, jD, jE, jF, jG, jH, jI, jJ, g0, ga, e4]
      refine sep_store (s.pull 1 rfl) (by simp) fun h5 s => ?_
      have s := s.as (ds := [.int .i64 0, .int .i64 0]) (by simp [t_put])
      have gz := (s.pull 0 rfl).rdAll (n := 2) rfl
      simp (disch := omega) only [WA, ↓reduceIte, jA, jB, jD, jE, jF, jG, jH, jI, jJ, gz, e4]
      exact hQ _ s.ext
    · obtain rfl : k = 0 := by omega
      simp (disch := omega) only [WA, ↓reduceIte, jA, jB, jD, jE, jF, jG, jH, jI, jJ, c1]
      refine loop_rule (fun j e h' => e 0 = .int .i64 0 ∧ e 1 = .int .i64 0 ∧ e 4 = .pointer (some ⟨h.length, 0, none⟩) ∧ e 5 = .bool false ∧ Sep h h' [blkA h.length [.int .i64 0, .int .i64 0] 97]) ?_ 0 _ _ ⟨rfl, rfl, rfl, rfl, s⟩
      rintro j e h' ⟨e0, e1, e4, e5, s⟩
      simp (disch := omega) only [WA, ↓reduceIte, jA, jB, jD, jE, jF, jG, jH, jI, jJ, e0, e1]
      refine .inl ⟨by kernel_rfl, ?_⟩; refine dyGood_c (d := ⟨0, 0⟩) fun h1 E1 => ?_
      have s := (s.newBlk [.int .i64 0, .int .i64 0] 97 true).mono E1
      have g0 : dyM ⟨0, 0⟩ = true := by decide
      have ga := (s.pull 0 rfl).rdAll (n := 2) rfl
      simp (disch := omega) only [WA, ↓reduceIte, jA, jB, jD, jE, jF, jG, jH, jI, jJ, g0, ga, e4]
      refine sep_store (s.pull 1 rfl) (by simp) fun h5 s => ?_
      have s := s.as (ds := [.int .i64 0, .int .i64 0]) (by simp [t_put])
      have gz := (s.pull 0 rfl).rdAll (n := 2) rfl
      simp (disch := omega) only [WA, ↓reduceIte, jA, jB, jD, jE, jF, jG, jH, jI, jJ, gz, e4]
      exact hQ _ s.ext
  have d0 := decide_eq_false c0
  simp (disch := omega) only [WA, ↓reduceIte, jA, jB, jD, jE, jF, jG, jH, jI, jJ, c0, d0]
  refine loop_rule (fun j e h' => ∃ (u : Int), e 0 = .int .i64 u ∧ e 1 = .int .i64 j ∧ e 4 = .pointer (some ⟨h.length, 0, none⟩) ∧ e 5 = .bool false ∧ u ≠ 0 ∧ inI64 u ∧ j ≤ k ∧ stripM u j = stripM n k ∧ Sep h h' [blkA h.length [.int .i64 0, .int .i64 0] 97]) ?_ k _ _ ⟨n, rfl, rfl, rfl, rfl, c0, hn, Nat.le_refl _, rfl, s⟩
  rintro j e h' ⟨u, e0, e1, e4, e5, hu, hui, hj, hs, s⟩
  unfold inI64 at hui
  have tm := tmod2 u
  simp (disch := omega) only [WA, ↓reduceIte, jA, jB, jD, jE, jF, jG, jH, jI, jJ, e0, e1]
  by_cases c1 : 0 < (j : Int)
  · have d1 := decide_eq_true c1
    by_cases c2 : Int.tmod u 2 = 0
    · have c2' := tm.1 c2
      have eq2 : Int.tdiv u 2 = u / 2 := by
        obtain ⟨v, rfl⟩ : ∃ v, u = 2 * v := ⟨u / 2, by omega⟩
        rw [Int.mul_tdiv_cancel_left _ (by decide), Int.mul_ediv_cancel_left _ (by decide)]
      have hj1 : (j : Int) - 1 = ((j - 1 : Nat) : Int) := by omega
      simp (disch := omega) only [WA, ↓reduceIte, jA, jB, jD, jE, jF, jG, jH, jI, jJ, d1, c1, c2, eq2, e0, e1, wrap_in, hj1]
      obtain ⟨m, rfl⟩ : ∃ m, j = m + 1 := ⟨j - 1, by omega⟩
      rw [stripM_even _ c2'] at hs
      refine ⟨m, by omega, u / 2, by simp, by simp, e4, e5, by omega, ⟨by omega, by omega⟩, by omega, hs, s⟩
    · have c2' : u % 2 = 1 := by have := fun e => c2 (tm.2 e); omega
      have hst : stripM u j = (u, j) := stripM_odd _ c2'
      simp (disch := omega) only [WA, ↓reduceIte, jA, jB, jD, jE, jF, jG, jH, jI, jJ, d1, c1, c2, e0, e1]
      have hmk := makeM_strip c0 (hs.symm.trans hst)
      refine .inl ⟨by kernel_rfl, ?_⟩; refine dyGood_c (d := ⟨u, j⟩) fun h1 E1 => ?_
      have s := (s.newBlk [.int .i64 u, .int .i64 j] 97 true).mono E1
      have ga := (s.pull 0 rfl).rdAll (n := 2) rfl
      cases hg : dyM ⟨u, j⟩ with
      | true =>
        rw [hmk, hg, if_pos rfl, optV_eq] at hQ
        simp (disch := omega) only [WA, ↓reduceIte, jA, jB, jD, jE, jF, jG, jH, jI, jJ, hg, ga, e4]
        refine sep_store (s.pull 1 rfl) (by simp) fun h5 s => ?_
        have s := s.as (ds := [.int .i64 u, .int .i64 j]) (by simp [t_put])
        have gz := (s.pull 0 rfl).rdAll (n := 2) rfl
        simp (disch := omega) only [WA, ↓reduceIte, jA, jB, jD, jE, jF, jG, jH, jI, jJ, gz, e4]
        exact hQ _ s.ext
      | false =>
        rw [hmk, hg, if_neg (by decide), optV_eq] at hQ
        simp (disch := omega) only [WA, ↓reduceIte, jA, jB, jD, jE, jF, jG, jH, jI, jJ, hg, ga, e4]
        refine sep_store (s.pull 1 rfl) (by simp) fun h5 s => ?_
        have s := s.as (ds := [.int .i64 0, .int .i64 0]) (by simp [t_put])
        have gz := (s.pull 0 rfl).rdAll (n := 2) rfl
        simp (disch := omega) only [WA, ↓reduceIte, jA, jB, jD, jE, jF, jG, jH, jI, jJ, gz, e4]
        exact hQ _ s.ext
  · obtain rfl : j = 0 := by omega
    have hst : stripM u 0 = (u, 0) := rfl
    have d1 := decide_eq_false c1
    simp (disch := omega) only [WA, ↓reduceIte, jA, jB, jD, jE, jF, jG, jH, jI, jJ, d1, c1, e0, e1]
    have hmk : makeM n k = if dyM ⟨u, 0⟩ = true then some ⟨u, 0⟩ else none := makeM_strip c0 (hs.symm.trans hst)
    refine .inl ⟨by kernel_rfl, ?_⟩; refine dyGood_c (d := ⟨u, 0⟩) fun h1 E1 => ?_
    have s := (s.newBlk [.int .i64 u, .int .i64 0] 97 true).mono E1
    have ga := (s.pull 0 rfl).rdAll (n := 2) rfl
    cases hg : dyM ⟨u, 0⟩ with
    | true =>
      rw [hmk, hg, if_pos rfl, optV_eq] at hQ
      simp (disch := omega) only [WA, ↓reduceIte, jA, jB, jD, jE, jF, jG, jH, jI, jJ, hg, ga, e4]
      refine sep_store (s.pull 1 rfl) (by simp) fun h5 s => ?_
      have s := s.as (ds := [.int .i64 u, .int .i64 0]) (by simp [t_put])
      have gz := (s.pull 0 rfl).rdAll (n := 2) rfl
      simp (disch := omega) only [WA, ↓reduceIte, jA, jB, jD, jE, jF, jG, jH, jI, jJ, gz, e4]
      exact hQ _ s.ext
    | false =>
      rw [hmk, hg, if_neg (by decide), optV_eq] at hQ
      simp (disch := omega) only [WA, ↓reduceIte, jA, jB, jD, jE, jF, jG, jH, jI, jJ, hg, ga, e4]
      refine sep_store (s.pull 1 rfl) (by simp) fun h5 s => ?_
      have s := s.as (ds := [.int .i64 0, .int .i64 0]) (by simp [t_put])
      have gz := (s.pull 0 rfl).rdAll (n := 2) rfl
      simp (disch := omega) only [WA, ↓reduceIte, jA, jB, jD, jE, jF, jG, jH, jI, jJ, gz, e4]
      exact hQ _ s.ext
end Go.Proofs
end

section
set_option linter.unusedSimpArgs false
set_option linter.unusedVariables false
set_option maxRecDepth 4000
namespace Go.Proofs
open Go Go.V
open Nat renaming reduceEqDiff → jA, reduceAdd → jB, reduceMul → jD, reduceSub → jE, reduceLeDiff → jF
open Int renaming reduceLT → jG, reduceLE → jH, reduceNeg → jI, reduceEq → jJ
/- dyAt, dyAdd. -/
def nearB (n : Int) : Prop := -1152921504606846976 ≤ n ∧ n ≤ 1152921504606846976
instance (n : Int) : Decidable (nearB n) := by unfold nearB; exact inferInstance
def atM (a : Dy) (k : Nat) : Option Int :=
  if a.n = 0 then some 0 else if a.k.toNat < k ∧ ¬ nearB (a.n * 2 ^ (k - a.k.toNat - 1)) then none else some (upM a k)
def optI (o : Option Int) : Value := .tuple #[.int .i64 (o.getD 0), .bool o.isSome]
theorem optI_eq (o : Option Int) : optI o = .tuple #[.int .i64 (o.getD 0), .bool o.isSome] := rfl
theorem near_mono {n : Int} {i j : Nat} (hij : i ≤ j) (h : nearB (n * 2 ^ j)) : nearB (n * 2 ^ i) := by
  obtain ⟨d, rfl⟩ : ∃ d, j = i + d := ⟨j - i, by omega⟩
  rw [Int.pow_add, ← Int.mul_assoc] at h
  have hp := pow_pos' d
  generalize n * 2 ^ i = x at *
  generalize (2 : Int) ^ d = p at *
  unfold nearB at *
  constructor
  · by_cases c : x ≤ 0
    · have : x * p ≤ x * 1 := Int.mul_le_mul_of_nonpos_left c (by omega)
      omega
    · omega
  · by_cases c : 0 ≤ x
    · have : x * 1 ≤ x * p := Int.mul_le_mul_of_nonneg_left (by omega) c
      omega
    · omega
theorem dyAt_c {a : Dy} {k : Nat} {h : Heap} {Q : Value → Heap → Prop} (ha : DyG a) (hk : k ≤ 1000) (hQ : ∀ h', Ext h h' → Q (optI (atM a k)) h') :
    CallsV Tryz.prog 104 [.agg (dyC a).toArray, .int .i64 k] h Q := by
  refine CallsV.start Tryz.func104 rfl (by rw [Tryz.results104]) (by kernel_rfl) (by rw [Tryz.ntmps104]; simp) ?_
  have s := Sep.blk1 h (dyC a) 97 true
  have ga := s.rd
  unfold atM at hQ
  by_cases c0 : a.n = 0
  · rw [if_pos c0] at hQ
    simp (disch := omega) only [WA, ↓reduceIte, jA, jB, jD, jE, jF, jG, jH, jI, jJ, ga, c0]
    exact hQ _ s.ext
  rw [if_neg c0] at hQ
  simp (disch := omega) only [WA, ↓reduceIte, jA, jB, jD, jE, jF, jG, jH, jI, jJ, ga, c0]
  have hk0 := ha.k0
  have hk1 := ha.k1
  have hn0 := ha.n0
  have hn1 := ha.n1
  obtain ⟨q, hq⟩ : ∃ q : Nat, a.k = (q : Int) := ⟨a.k.toNat, by omega⟩
  have hqt : a.k.toNat = q := by omega
  rw [hqt] at hQ
  have ed : dyC a = [.int .i64 (a.n * 2 ^ (q - q)), .int .i64 a.k] := by rw [Nat.sub_self, Int.pow_zero, Int.mul_one]
  have s := s.as ed
  refine loop_rule (fun m e h' => ∃ (i : Nat), e 1 = .int .i64 k ∧ e 2 = .pointer (some ⟨h.length, 0, none⟩) ∧ e 6 = .int .i64 i ∧ q ≤ i ∧ (i ≤ k ∨ i = q) ∧ (q < i → nearB (a.n * 2 ^ (i - q - 1))) ∧ m = k - i ∧ Sep h h' [blkA h.length [.int .i64 (a.n * 2 ^ (i - q)), .int .i64 a.k] 97]) ?_ (k - q) _ _ ⟨q, rfl, rfl, by simp [upd, hq], Nat.le_refl _, .inr rfl, fun h => absurd h (Nat.lt_irrefl _), rfl, s⟩
  rintro m e h' ⟨i, e1, e2, e6, hqi, hik, hnear, rfl, s⟩
  have ga := s.rd
  simp (disch := omega) only [WA, ↓reduceIte, jA, jB, jD, jE, jF, jG, jH, jI, jJ, e1, e6]
  by_cases c1 : (i : Int) < (k : Int)
  · simp (disch := omega) only [WA, ↓reduceIte, jA, jB, jD, jE, jF, jG, jH, jI, jJ, c1]
    refine draw_ord [0, 1, 2, 3, 4, 5, 6] (by kernel_rfl) (by simp only [WLF]; rfl) ?_
    simp (disch := omega) only [WA, ↓reduceIte, jA, jB, jD, jE, jF, jG, jH, jI, jJ, e2, ga]
    have p60 : (2 : Int) ^ 60 = 1152921504606846976 := by decide
    refine .inl ⟨by kernel_rfl, ?_⟩; refine dyPow_c (k := 60) (by decide) ?_
    simp (disch := omega) only [WA, ↓reduceIte, jA, jB, jD, jE, jF, jG, jH, jI, jJ, e2, ga, p60, wrap_in]
    refine .inl ⟨by kernel_rfl, ?_⟩; refine dyPow_c (k := 60) (by decide) ?_
    simp (disch := omega) only [WA, ↓reduceIte, jA, jB, jD, jE, jF, jG, jH, jI, jJ, e2, ga, p60, wrap_in]
    refine .inl ⟨by kernel_rfl, ?_⟩; refine l1In_c ?_
    by_cases c2 : nearB (a.n * 2 ^ (i - q))
    · have d2 : decide ((0 : Int) - 1152921504606846976 ≤ a.n * 2 ^ (i - q) ∧ a.n * 2 ^ (i - q) ≤ 1152921504606846976) = true := decide_eq_true (by unfold nearB at c2; omega)
      have e2p : a.n * 2 ^ (i - q) * 2 = a.n * 2 ^ (i + 1 - q) := by
        rw [show i + 1 - q = (i - q) + 1 by omega, Int.pow_succ, Int.mul_assoc]
      have hb : -9223372036854775808 ≤ a.n * 2 ^ (i - q) * 2 ∧ a.n * 2 ^ (i - q) * 2 ≤ 9223372036854775807 := by
        unfold nearB at c2; omega
      rw [d2]
      have w2 := wrap_in _ hb
      simp (disch := omega) only [WA, ↓reduceIte, jA, jB, jD, jE, jF, jG, jH, jI, jJ, e2, ga, w2]
      refine sep_store s (by simp) fun h5 s => ?_
      have s := s.as (ds := [.int .i64 (a.n * 2 ^ (i + 1 - q)), .int .i64 a.k]) (by simp [t_put, e2p])
      simp (disch := omega) only [WA, ↓reduceIte, jA, jB, jD, jE, jF, jG, jH, jI, jJ, e6, e1, e2, wrap_in]
      refine ⟨_, by omega, i + 1, by simp, by omega, .inl (by omega), fun _ => ?_, rfl, s⟩
      rw [show i + 1 - q - 1 = i - q by omega]
      exact c2
    · have d2 : decide ((0 : Int) - 1152921504606846976 ≤ a.n * 2 ^ (i - q) ∧ a.n * 2 ^ (i - q) ≤ 1152921504606846976) = false := decide_eq_false (by unfold nearB at c2; omega)
      rw [d2]
      have hfar : q < k ∧ ¬ nearB (a.n * 2 ^ (k - q - 1)) := ⟨by omega, fun hn => c2 (near_mono (by omega) hn)⟩
      rw [if_pos hfar] at hQ
      simp (disch := omega) only [WA, ↓reduceIte, jA, jB, jD, jE, jF, jG, jH, jI, jJ, e2, ga]
      exact hQ _ s.ext
  · simp (disch := omega) only [WA, ↓reduceIte, jA, jB, jD, jE, jF, jG, jH, jI, jJ, c1, e2, ga]
    have hup : upM a k = a.n * 2 ^ (i - q) := by
      unfold upM
      rw [hqt]
      congr 2
      omega
    have hnf : ¬ (q < k ∧ ¬ nearB (a.n * 2 ^ (k - q - 1))) := by
      rintro ⟨h1, h2⟩
      obtain rfl : i = k := by omega
      exact h2 (hnear h1)
    rw [if_neg hnf, hup] at hQ
    exact hQ _ s.ext
end Go.Proofs
end

section
set_option linter.unusedSimpArgs false
set_option linter.unusedVariables false
set_option maxRecDepth 4000
namespace Go.Proofs
open Go Go.V
open Nat renaming reduceEqDiff → jA, reduceAdd → jB, reduceMul → jD, reduceSub → jE, reduceLeDiff → jF
open Int renaming reduceLT → jG, reduceLE → jH, reduceNeg → jI, reduceEq → jJ
/- Dyadic numbers compared by whole part and rest. -/
theorem strip_val (n : Int) : ∀ k : Nat, (stripM n k).1 * 2 ^ (k - (stripM n k).2) = n := by
  intro k
  induction k generalizing n with
  | zero => simp [stripM_zero]
  | succ k ih =>
    rcases Int.emod_two_eq n with h | h
    · rw [stripM_even k h]
      have hl := stripM_le (n / 2) k
      have := ih (n / 2)
      rw [show k + 1 - (stripM (n / 2) k).2 = (k - (stripM (n / 2) k).2) + 1 by omega, Int.pow_succ, ← Int.mul_assoc, this]
      omega
    · rw [stripM_odd _ h]; simp
theorem makeM_up {n : Int} {k : Nat} {d : Dy} (hk : k ≤ 24) (h : makeM n k = some d) : upM d 24 = n * 2 ^ (24 - k) := by
  unfold makeM at h
  split at h
  · rename_i h0
    cases h
    subst h0
    simp [upM]
  · split at h
    · cases h
      have h1 := strip_val n k
      have h2 := stripM_le n k
      unfold upM
      simp only [Int.toNat_natCast]
      rw [show 24 - (stripM n k).2 = (k - (stripM n k).2) + (24 - k) by omega, Int.pow_add, ← Int.mul_assoc, h1]
    · cases h
def flD (a : Dy) : Int := a.n / 2 ^ a.k.toNat
theorem down_eq {n d : Int} (hd : 0 < d) : (if Int.tmod n d < 0 then Int.tdiv n d - 1 else Int.tdiv n d) = n / d := by
  have h1 := Int.mul_tdiv_add_tmod n d
  have h2 := Int.emod_nonneg n (show d ≠ 0 by omega)
  have h3 := Int.emod_lt_of_pos n hd
  have h4 : -d < Int.tmod n d ∧ Int.tmod n d < d := by
    rw [Int.tmod_eq_emod]
    split <;> constructor <;> omega
  split
  · rename_i c
    refine ((Int.ediv_emod_unique (r := Int.tmod n d + d) (q := Int.tdiv n d - 1) hd).2 ⟨?_, by omega, by omega⟩).1.symm
    rw [Int.mul_sub]; omega
  · rename_i c
    exact ((Int.ediv_emod_unique (r := Int.tmod n d) (q := Int.tdiv n d) hd).2 ⟨by omega, by omega, by omega⟩).1.symm
theorem l1Sign_c {n : Int} {h : Heap} {Q : Value → Heap → Prop} (hQ : Q (.int .i64 (sgn n)) h) : CallsV Tryz.prog 103 [.int .i64 n] h Q := by
  refine CallsV.start Tryz.func103 rfl (by rw [Tryz.results103]) (by kernel_rfl) (by rw [Tryz.ntmps103]; simp) ?_
  unfold sgn at hQ
  by_cases c1 : 0 < n
  · rw [if_pos c1] at hQ
    simp (disch := omega) only [WA, ↓reduceIte, jA, jB, jD, jE, jF, jG, jH, jI, jJ, c1]
    exact hQ
  · rw [if_neg c1] at hQ
    by_cases c2 : n < 0
    · rw [if_pos c2] at hQ
      simp (disch := omega) only [WA, ↓reduceIte, jA, jB, jD, jE, jF, jG, jH, jI, jJ, c1, c2]
      exact hQ
    · rw [if_neg c2] at hQ
      simp (disch := omega) only [WA, ↓reduceIte, jA, jB, jD, jE, jF, jG, jH, jI, jJ, c1, c2]
      exact hQ
theorem dyDown_c {n d : Int} {h : Heap} {Q : Value → Heap → Prop} (hn : -1099511627776 ≤ n ∧ n ≤ 1099511627776) (hd : 0 < d) (hQ : Q (.int .i64 (n / d)) h) : CallsV Tryz.prog 117 [.int .i64 n, .int .i64 d] h Q := by
  refine CallsV.start Tryz.func117 rfl (by rw [Tryz.results117]) (by kernel_rfl) (by rw [Tryz.ntmps117]; simp) ?_
  have h1 := Int.mul_tdiv_add_tmod n d
  have hs : (Int.tdiv n d).natAbs ≤ n.natAbs := by
    rw [Int.natAbs_tdiv]
    exact Nat.div_le_self _ _
  have d0 : ¬ d = 0 := by omega
  have w1 : IntKind.i64.wrap (Int.tdiv n d) = Int.tdiv n d := wrap_in _ (by omega)
  rw [← down_eq hd] at hQ
  by_cases c : Int.tmod n d < 0
  · rw [if_pos c] at hQ
    have w2 : IntKind.i64.wrap (Int.tdiv n d - 1) = Int.tdiv n d - 1 := wrap_in _ (by omega)
    simp (disch := omega) only [WA, ↓reduceIte, jA, jB, jD, jE, jF, jG, jH, jI, jJ, d0, w1, c, w2]
    exact hQ
  · rw [if_neg c] at hQ
    simp (disch := omega) only [WA, ↓reduceIte, jA, jB, jD, jE, jF, jG, jH, jI, jJ, d0, w1, c]
    exact hQ
theorem dyFloor_c {a : Dy} {h : Heap} {Q : Value → Heap → Prop} (ha : DyG a) (hQ : ∀ h', Ext h h' → Q (.int .i64 (flD a)) h') : CallsV Tryz.prog 102 [.agg (dyC a).toArray] h Q := by
  refine CallsV.start Tryz.func102 rfl (by rw [Tryz.results102]) (by kernel_rfl) (by rw [Tryz.ntmps102]; simp) ?_
  have s := Sep.blk1 h (dyC a) 97 true
  have ga := s.rd
  have hk0 := ha.k0
  have hk1 := ha.k1
  obtain ⟨q, hq⟩ : ∃ q : Nat, a.k = (q : Int) := ⟨a.k.toNat, by omega⟩
  have hq' : a.k.toNat = q := by omega
  unfold flD at hQ
  rw [hq'] at hQ
  simp (disch := omega) only [WA, ↓reduceIte, jA, jB, jD, jE, jF, jG, jH, jI, jJ]
  refine draw_ord [0, 1, 2, 3, 4, 5, 6] (by kernel_rfl) (by simp only [WLF]; rfl) ?_
  simp (disch := omega) only [WA, ↓reduceIte, jA, jB, jD, jE, jF, jG, jH, jI, jJ, ga]
  rw [hq]
  refine .inl ⟨by kernel_rfl, ?_⟩; refine dyPow_c (k := q) (by omega) ?_
  simp (disch := omega) only [WA, ↓reduceIte, jA, jB, jD, jE, jF, jG, jH, jI, jJ, ga, hq]
  refine .inl ⟨by kernel_rfl, ?_⟩; refine dyDown_c ⟨ha.n0, ha.n1⟩ (Int.pow_pos (by decide)) ?_
  simp (disch := omega) only [WA, ↓reduceIte, jA, jB, jD, jE, jF, jG, jH, jI, jJ, ga, hq]
  exact hQ _ s.ext
end Go.Proofs
end

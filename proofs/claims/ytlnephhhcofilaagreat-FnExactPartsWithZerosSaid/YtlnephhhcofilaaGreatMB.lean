/- The layer V and contracts of functions over it, or plain laws behind one statement (own work): MB=YX,YF,YG. Conditions: those told in each theorem. -/
import Derived.Test.YtlnephhhcofilaaGreatYW
set_option linter.all false
section
set_option linter.unusedSimpArgs false
set_option linter.unusedVariables false
set_option maxRecDepth 4000
namespace Go.Proofs
open Go Go.V
open Nat renaming reduceEqDiff → jA, reduceAdd → jB, reduceMul → jD, reduceSub → jE, reduceLeDiff → jF
open Int renaming reduceLT → jG, reduceLE → jH, reduceNeg → jI, reduceEq → jJ
def addW (w v : Wd) : Wd := if w.neg = v.neg then wdOf w.neg (w.mag + v.mag) else if w.mag < v.mag then wdOf v.neg (v.mag - w.mag) else wdOf w.neg (w.mag - v.mag)
theorem addW_val (w v : Wd) : (addW w v).val = w.val + v.val := by
  unfold addW
  split
  · rename_i h
    rw [wdOf_val]
    unfold Wd.val
    rw [← h]
    cases w.neg
    · simp
    · simp; omega
  · rename_i h
    have hb : w.neg = !v.neg := by cases hw : w.neg <;> cases hv : v.neg <;> simp_all
    split
    · rename_i hl
      rw [wdOf_val]
      unfold Wd.val
      rw [hb]
      cases v.neg
      · simp; omega
      · simp; omega
    · rename_i hl
      rw [wdOf_val]
      unfold Wd.val
      rw [hb]
      cases v.neg
      · simp; omega
      · simp; omega
theorem addW_mag (w v : Wd) : (addW w v).mag ≤ w.mag + v.mag := by
  unfold addW
  split
  · rw [wdOf_mag]; omega
  · split
    · rw [wdOf_mag]; omega
    · rw [wdOf_mag]; omega
theorem add_parts {h1 l1 h2 l2 : Nat} (g1 : l1 < 18446744073709551616) (g2 : l2 < 18446744073709551616) (hm : (h1 * 18446744073709551616 + l1) + (h2 * 18446744073709551616 + l2) < 340282366920938463463374607431768211456) :
    (l1 + l2 + 0) % 18446744073709551616 = ((h1 * 18446744073709551616 + l1) + (h2 * 18446744073709551616 + l2)) % 18446744073709551616 ∧
    (h1 + h2 + (l1 + l2 + 0) / 18446744073709551616) % 18446744073709551616 = ((h1 * 18446744073709551616 + l1) + (h2 * 18446744073709551616 + l2)) / 18446744073709551616 ∧ (l1 + l2 + 0) / 18446744073709551616 ≤ 1 := by omega
theorem sub_parts {h1 l1 h2 l2 : Nat} (g1 : l1 < 18446744073709551616) (g2 : l2 < 18446744073709551616) (k1 : h1 < 18446744073709551616) (k2 : h2 < 18446744073709551616) (hm : (h2 * 18446744073709551616 + l2) ≤ (h1 * 18446744073709551616 + l1)) :
    (l1 + 18446744073709551616 - l2 - 0) % 18446744073709551616 = ((h1 * 18446744073709551616 + l1) - (h2 * 18446744073709551616 + l2)) % 18446744073709551616 ∧
    (h1 + 18446744073709551616 - h2 - (if l1 < l2 + 0 then 1 else 0)) % 18446744073709551616 = ((h1 * 18446744073709551616 + l1) - (h2 * 18446744073709551616 + l2)) / 18446744073709551616 ∧ (if l1 < l2 + 0 then 1 else 0) ≤ 1 := by
  split <;> omega
theorem add_c {w v : Wd} {h : Heap} {Q : Value → Heap → Prop} (gw : w.G) (gv : v.G) (hm : w.mag + v.mag < 340282366920938463463374607431768211456) (hQ : ∀ h', Ext h h' → Q (.agg (addW w v).cs.toArray) h') :
    CallsV Tryz.prog 165 [.agg w.cs.toArray, .agg v.cs.toArray] h Q := by
  refine CallsV.start Tryz.func165 rfl (by rw [Tryz.results165]) (by kernel_rfl) (by rw [Tryz.ntmps165]; simp) ?_
  have s := Sep.blk3 h w.cs v.cs [.bool false, .int .u64 0, .int .u64 0] 130 130 130 true true true
  have g1 := (s.pull 2 rfl).rd
  have g2 := (s.pull 1 rfl).rd
  simp (disch := omega) only [WA, ↓reduceIte, jA, jB, jD, jE, jF, jG, jH, jI, jJ, g1, g2]
  by_cases cb : w.neg = v.neg
  · obtain ⟨p1, p2, p3⟩ := add_parts gw.lo gv.lo (show (w.hi * 18446744073709551616 + w.lo) + (v.hi * 18446744073709551616 + v.lo) < _ from hm)
    have ecs : (addW w v).cs = [.bool w.neg, .int .u64 ((w.hi + v.hi + (w.lo + v.lo + 0) / 18446744073709551616) % 18446744073709551616 : Nat), .int .u64 ((w.lo + v.lo + 0) % 18446744073709551616 : Nat)] := by
      rw [p1, p2]
      unfold addW
      rw [if_pos cb]
      exact wdOf_cs _ _
    rw [ecs] at hQ
    have cb' : (w.neg == v.neg) = true := by rw [cb]; exact beq_self_eq_true _
    simp (disch := omega) only [WA, ↓reduceIte, jA, jB, jD, jE, jF, jG, jH, jI, jJ, cb', b_eqb, g1, g2]
    refine .inr ⟨_, pure_add64 w.lo v.lo 0 (by decide), ?_⟩
    simp (disch := omega) only [WA, ↓reduceIte, jA, jB, jD, jE, jF, jG, jH, jI, jJ, g1, g2]
    refine .inr ⟨_, pure_add64 w.hi v.hi ((w.lo + v.lo + 0) / 18446744073709551616) p3, ?_⟩
    simp (disch := omega) only [WA, ↓reduceIte, jA, jB, jD, jE, jF, jG, jH, jI, jJ, g1, g2]
    exact hQ _ (.app _ _)
  · have cb' : (w.neg == v.neg) = false := by simpa using cb
    have hw0 := (s.pull 2 rfl).rdAll (n := 3) rfl
    have hv0 := (s.pull 1 rfl).rdAll (n := 3) rfl
    simp (disch := omega) only [WA, ↓reduceIte, jA, jB, jD, jE, jF, jG, jH, jI, jJ, cb', b_eqb, g1, g2, hw0, hv0]
    refine .inl ⟨by kernel_rfl, ?_⟩; refine compareSizes_c gw gv fun h2 E2 => ?_
    have s := s.mono E2
    have hw3 := (s.pull 2 rfl).rdAll (n := 3) rfl
    have hv3 := (s.pull 1 rfl).rdAll (n := 3) rfl
    unfold sgnN
    by_cases cl : w.mag < v.mag
    · obtain ⟨p1, p2, p3⟩ := sub_parts gv.lo gw.lo gv.hi gw.hi (show (w.hi * 18446744073709551616 + w.lo) ≤ (v.hi * 18446744073709551616 + v.lo) from Nat.le_of_lt cl)
      have ecs : (addW w v).cs = [.bool v.neg, .int .u64 ((v.hi + 18446744073709551616 - w.hi - (if v.lo < w.lo + 0 then 1 else 0)) % 18446744073709551616 : Nat), .int .u64 ((v.lo + 18446744073709551616 - w.lo - 0) % 18446744073709551616 : Nat)] := by
        rw [p1, p2]
        unfold addW
        rw [if_neg cb, if_pos cl]
        exact wdOf_cs _ _
      rw [ecs] at hQ
      have q1 : (-1 : Int) < 0 := by decide
      rw [if_pos cl]
      simp (disch := omega) only [WA, ↓reduceIte, jA, jB, jD, jE, jF, jG, jH, jI, jJ, q1, hw3, hv3]
      refine sep_store (s.pull 2 rfl) (by simp) fun h3 s => ?_
      have s := s.as (ds := v.cs) (by simp [t_put])
      have hw3 := (s.pull 0 rfl).rdAll (n := 3) rfl
      have hv3 := (s.pull 2 rfl).rdAll (n := 3) rfl
      simp (disch := omega) only [WA, ↓reduceIte, jA, jB, jD, jE, jF, jG, jH, jI, jJ, hw3, hv3]
      refine sep_store (s.pull 2 rfl) (by simp) fun h4 s => ?_
      have s := s.as (ds := w.cs) (by simp [t_put])
      have g2 := (s.pull 0 rfl).rd
      have g1 := (s.pull 1 rfl).rd
      simp (disch := omega) only [WA, ↓reduceIte, jA, jB, jD, jE, jF, jG, jH, jI, jJ, g1, g2]
      refine .inr ⟨_, pure_sub64 v.lo w.lo 0 (by decide), ?_⟩
      simp (disch := omega) only [WA, ↓reduceIte, jA, jB, jD, jE, jF, jG, jH, jI, jJ, g1, g2]
      refine .inr ⟨_, pure_sub64 v.hi w.hi (if v.lo < w.lo + 0 then 1 else 0) p3, ?_⟩
      simp (disch := omega) only [WA, ↓reduceIte, jA, jB, jD, jE, jF, jG, jH, jI, jJ, g1, g2]
      refine sep_store (s.pull 2 rfl) (by simp) fun h5 s => ?_
      have s := s.as (ds := [.bool v.neg, .int .u64 ((v.hi + 18446744073709551616 - w.hi - (if v.lo < w.lo + 0 then 1 else 0)) % 18446744073709551616 : Nat), .int .u64 ((v.lo + 18446744073709551616 - w.lo - 0) % 18446744073709551616 : Nat)]) (by simp [t_put])
      have ga := s.rdAll (n := 3) rfl
      simp (disch := omega) only [WA, ↓reduceIte, jA, jB, jD, jE, jF, jG, jH, jI, jJ, ga]
      exact hQ _ s.ext
    · obtain ⟨p1, p2, p3⟩ := sub_parts gw.lo gv.lo gw.hi gv.hi (show (v.hi * 18446744073709551616 + v.lo) ≤ (w.hi * 18446744073709551616 + w.lo) from Nat.le_of_not_lt cl)
      have ecs : (addW w v).cs = [.bool w.neg, .int .u64 ((w.hi + 18446744073709551616 - v.hi - (if w.lo < v.lo + 0 then 1 else 0)) % 18446744073709551616 : Nat), .int .u64 ((w.lo + 18446744073709551616 - v.lo - 0) % 18446744073709551616 : Nat)] := by
        rw [p1, p2]
        unfold addW
        rw [if_neg cb, if_neg cl]
        exact wdOf_cs _ _
      rw [ecs] at hQ
      rw [if_neg cl]
      have q1 : ¬ ((if v.mag < w.mag then 1 else 0 : Int)) < 0 := by split <;> decide
      have g1 := (s.pull 2 rfl).rd
      have g2 := (s.pull 1 rfl).rd
      simp (disch := omega) only [WA, ↓reduceIte, jA, jB, jD, jE, jF, jG, jH, jI, jJ, q1, g1, g2]
      refine .inr ⟨_, pure_sub64 w.lo v.lo 0 (by decide), ?_⟩
      simp (disch := omega) only [WA, ↓reduceIte, jA, jB, jD, jE, jF, jG, jH, jI, jJ, g1, g2]
      refine .inr ⟨_, pure_sub64 w.hi v.hi (if w.lo < v.lo + 0 then 1 else 0) p3, ?_⟩
      simp (disch := omega) only [WA, ↓reduceIte, jA, jB, jD, jE, jF, jG, jH, jI, jJ, g1, g2]
      refine sep_store (s.pull 0 rfl) (by simp) fun h5 s => ?_
      have s := s.as (ds := [.bool w.neg, .int .u64 ((w.hi + 18446744073709551616 - v.hi - (if w.lo < v.lo + 0 then 1 else 0)) % 18446744073709551616 : Nat), .int .u64 ((w.lo + 18446744073709551616 - v.lo - 0) % 18446744073709551616 : Nat)]) (by simp [t_put])
      have ga := s.rdAll (n := 3) rfl
      simp (disch := omega) only [WA, ↓reduceIte, jA, jB, jD, jE, jF, jG, jH, jI, jJ, ga]
      exact hQ _ s.ext
end Go.Proofs
end

section
set_option linter.unusedSimpArgs false
set_option linter.unusedVariables false
set_option maxRecDepth 4000
namespace Go.Proofs
open Go Go.V
open Nat renaming reduceEqDiff → jA, reduceAdd → jB, reduceMul → jD, reduceSub → jE, reduceLeDiff → jF
open Int renaming reduceLT → jG, reduceLE → jH, reduceNeg → jI, reduceEq → jJ
/- Making a number: fit, dyMake. -/
abbrev dyC (d : Dy) : List Value := [.int .i64 d.n, .int .i64 d.k]
def optV (o : Option Dy) : Value := .tuple #[.agg (dyC (o.getD ⟨0, 0⟩)).toArray, .bool o.isSome]
theorem val_zero (w : Wd) : w.val = 0 ↔ w.mag = 0 := by unfold Wd.val; split <;> omega
theorem val_mod (w : Wd) : w.val % 2 = ((w.lo % 2 : Nat) : Int) := by unfold Wd.val Wd.mag; split <;> omega
theorem shr1_val {w : Wd} (h : w.val % 2 = 0) : (shr1M w).val = w.val / 2 := by
  unfold shr1M
  rw [wdOf_val]
  unfold Wd.val at h ⊢
  split at h <;> rename_i c <;> simp only [c] <;> simp <;> omega
theorem shr1_G {w : Wd} (g : w.G) : (shr1M w).G := by
  have := g.hi; have := g.lo
  unfold shr1M
  refine wdOf_G _ ?_
  unfold Wd.mag
  omega
/-- What stands at the end. -/
theorem make_end {w : Wd} {k : Nat} (g : w.G) (hn : w.mag ≠ 0) (hs : k = 0 ∨ w.val % 2 = 1) :
    makeM w.val k = if k ≤ 24 ∧ w.hi = 0 ∧ w.lo ≤ 1099511627776 then some ⟨if w.neg then -(w.lo : Int) else w.lo, k⟩ else none := by
  have := g.hi; have := g.lo
  have hv : w.val ≠ 0 := fun e => hn ((val_zero w).1 e)
  have hst : stripM w.val k = (w.val, k) := by
    rcases hs with rfl | hs
    · rfl
    · exact stripM_odd k hs
  unfold makeM
  rw [if_neg hv, hst]
  have hf : fitsB (w.val, k) = true ↔ (k ≤ 24 ∧ w.hi = 0 ∧ w.lo ≤ 1099511627776) := by
    unfold fitsB Wd.val Wd.mag
    simp only [Bool.and_eq_true, decide_eq_true_eq]
    constructor
    · rintro ⟨h1, h2⟩
      split at h2 <;> omega
    · rintro ⟨h1, h2, h3⟩
      rw [h2]
      refine ⟨h1, ?_⟩
      split <;> omega
  by_cases c : k ≤ 24 ∧ w.hi = 0 ∧ w.lo ≤ 1099511627776
  · rw [if_pos (hf.2 c), if_pos c]
    unfold Wd.val Wd.mag
    rw [c.2.1]
    simp
  · rw [if_neg (fun e => c (hf.1 e)), if_neg c]
theorem fit_c {w : Wd} {k : Nat} {h : Heap} {Q : Value → Heap → Prop} (g : w.G) (hk : k ≤ 1000) (hQ : ∀ h', Ext h h' → Q (optV (makeM w.val k)) h') :
    CallsV Tryz.prog 115 [.agg w.cs.toArray, .int .i64 k] h Q := by
  refine CallsV.start Tryz.func115 rfl (by rw [Tryz.results115]) (by kernel_rfl) (by rw [Tryz.ntmps115]; simp) ?_
  have s := Sep.blk2 h w.cs [.int .i64 0, .int .i64 0] 130 97 true true
  have ga := (s.pull 1 rfl).rdAll (n := 3) rfl
  simp (disch := omega) only [WA, ↓reduceIte, jA, jB, jD, jE, jF, jG, jH, jI, jJ, ga]
  refine .inl ⟨by kernel_rfl, ?_⟩; refine isZero_c fun h1 E1 => ?_
  have s := s.mono E1
  by_cases c0 : w.mag = 0
  · have c0' := decide_eq_true c0
    have hz : makeM w.val k = some ⟨0, 0⟩ := by unfold makeM; rw [if_pos ((val_zero w).2 c0)]
    rw [hz] at hQ
    simp (disch := omega) only [WA, ↓reduceIte, jA, jB, jD, jE, jF, jG, jH, jI, jJ, c0']
    refine sep_store (s.pull 0 rfl) (by simp) fun h5 s => ?_
    have s := s.as (ds := [.int .i64 0, .int .i64 0]) (by simp [t_put])
    have ga := (s.pull 0 rfl).rdAll (n := 2) rfl
    simp (disch := omega) only [WA, ↓reduceIte, jA, jB, jD, jE, jF, jG, jH, jI, jJ, ga]
    exact hQ _ s.ext
  have c0' := decide_eq_false c0
  simp (disch := omega) only [WA, ↓reduceIte, jA, jB, jD, jE, jF, jG, jH, jI, jJ, c0']
  refine loop_rule (fun n e h' => ∃ (u : Wd) (j : Nat), e 1 = .int .i64 j ∧ e 2 = .pointer (some ⟨h.length, 0, none⟩) ∧ e 4 = .pointer (some ⟨h.length + 1, 0, none⟩) ∧ e 5 = .bool false ∧ n = j ∧ j ≤ k ∧ u.G ∧ u.mag ≠ 0 ∧ makeM u.val j = makeM w.val k ∧ Sep h h' [blkA h.length u.cs 130, blkA (h.length + 1) [.int .i64 0, .int .i64 0] 97]) ?_ k _ _ ⟨w, k, rfl, rfl, rfl, rfl, rfl, Nat.le_refl _, g, c0, rfl, (s.pull 1 rfl)⟩
  rintro n e h' ⟨u, j, e1, e2, e4, e5, rfl, hj, gu, hu, hm, s⟩
  have gr := s.rd
  have ga := s.rdAll (n := 3) rfl
  have hgl := gu.lo
  have hgh := gu.hi
  have hvm := val_mod u
  have hv0 : u.val ≠ 0 := fun e => hu ((val_zero u).1 e)
  have tm : (Int.tmod (u.lo : Int) 2 = 0) ↔ u.val % 2 = 0 := by rw [tmod2, hvm]; omega
  simp (disch := omega) only [WA, ↓reduceIte, jA, jB, jD, jE, jF, jG, jH, jI, jJ, e1, e2]
  by_cases c1 : 0 < (n : Int)
  · have d1 := decide_eq_true c1
    by_cases c2 : u.val % 2 = 0
    · have c2' := tm.2 c2
      simp (disch := omega) only [WA, ↓reduceIte, jA, jB, jD, jE, jF, jG, jH, jI, jJ, c1, d1, c2', gr, ga, e1, e2]
      refine .inl ⟨by kernel_rfl, ?_⟩; refine shiftR1_c gu fun h1 E1 => ?_
      have s := s.mono E1
      simp (disch := omega) only [WA, ↓reduceIte, jA, jB, jD, jE, jF, jG, jH, jI, jJ, e2]
      refine sep_store s (by simp) fun h2 s => ?_
      have s := s.as (ds := (shr1M u).cs) (by simp [t_put])
      have hn1 : (n : Int) - 1 = ((n - 1 : Nat) : Int) := by omega
      simp (disch := omega) only [WA, ↓reduceIte, jA, jB, jD, jE, jF, jG, jH, jI, jJ, e1, e2, wrap_in, hn1]
      refine ⟨n - 1, by omega, shr1M u, n - 1, by simp, e4, e5, rfl, by omega, shr1_G gu, ?_, ?_, s⟩
      · unfold shr1M; rw [wdOf_mag]
        intro h0
        have : u.mag < 2 := by omega
        have : u.mag = 1 := by omega
        unfold Wd.val at c2
        rw [this] at c2
        split at c2 <;> omega
      · rw [← hm, shr1_val c2]
        obtain ⟨m, rfl⟩ : ∃ m, n = m + 1 := ⟨n - 1, by omega⟩
        unfold makeM
        rw [stripM_even _ c2, if_neg hv0, if_neg (by omega)]
        rfl
    · have c2' : ¬ Int.tmod (u.lo : Int) 2 = 0 := fun e => c2 (tm.1 e)
      simp (disch := omega) only [WA, ↓reduceIte, jA, jB, jD, jE, jF, jG, jH, jI, jJ, c1, d1, c2', gr, ga, e1, e2]
      have hodd : n = 0 ∨ u.val % 2 = 1 := by omega
      rw [← hm, make_end gu hu hodd] at hQ
      by_cases k1 : (24 : Int) < (n : Int)
      · have k1' := decide_eq_true k1
        rw [if_neg (by omega)] at hQ
        simp (disch := omega) only [WA, ↓reduceIte, jA, jB, jD, jE, jF, jG, jH, jI, jJ, k1', k1, gr, e1, e2, e4]
        refine sep_store (s.pull 1 rfl) (by simp) fun h5 s => ?_
        have s := s.as (ds := [.int .i64 0, .int .i64 0]) (by simp [t_put])
        have ga := (s.pull 0 rfl).rdAll (n := 2) rfl
        simp (disch := omega) only [WA, ↓reduceIte, jA, jB, jD, jE, jF, jG, jH, jI, jJ, ga, e4]
        exact hQ _ s.ext
      have k1' := decide_eq_false k1
      by_cases k2 : (0 : Int) < (u.hi : Int)
      · have k2' := decide_eq_true k2
        rw [if_neg (by omega)] at hQ
        simp (disch := omega) only [WA, ↓reduceIte, jA, jB, jD, jE, jF, jG, jH, jI, jJ, k1', k1, k2', k2, gr, e1, e2, e4]
        refine sep_store (s.pull 1 rfl) (by simp) fun h5 s => ?_
        have s := s.as (ds := [.int .i64 0, .int .i64 0]) (by simp [t_put])
        have ga := (s.pull 0 rfl).rdAll (n := 2) rfl
        simp (disch := omega) only [WA, ↓reduceIte, jA, jB, jD, jE, jF, jG, jH, jI, jJ, ga, e4]
        exact hQ _ s.ext
      have k2' := decide_eq_false k2
      by_cases k3 : (1099511627776 : Int) < (u.lo : Int)
      · have k3' := decide_eq_true k3
        rw [if_neg (by omega)] at hQ
        simp (disch := omega) only [WA, ↓reduceIte, jA, jB, jD, jE, jF, jG, jH, jI, jJ, k1', k1, k2', k2, k3', k3, gr, e1, e2, e4]
        refine sep_store (s.pull 1 rfl) (by simp) fun h5 s => ?_
        have s := s.as (ds := [.int .i64 0, .int .i64 0]) (by simp [t_put])
        have ga := (s.pull 0 rfl).rdAll (n := 2) rfl
        simp (disch := omega) only [WA, ↓reduceIte, jA, jB, jD, jE, jF, jG, jH, jI, jJ, ga, e4]
        exact hQ _ s.ext
      have k3' := decide_eq_false k3
      rw [if_pos (by omega)] at hQ
      cases hb : u.neg with
      | true =>
        rw [hb] at hQ
        simp (disch := omega) only [WA, ↓reduceIte, jA, jB, jD, jE, jF, jG, jH, jI, jJ, k1', k1, k2', k2, k3', k3, gr, e1, e2, e4, wrap_in, hb]
        refine sep_store (s.pull 1 rfl) (by simp) fun h5 s => ?_
        have s := s.as (ds := [.int .i64 (-(u.lo : Int)), .int .i64 n]) (by simp [t_put])
        have ga := (s.pull 0 rfl).rdAll (n := 2) rfl
        simp (disch := omega) only [WA, ↓reduceIte, jA, jB, jD, jE, jF, jG, jH, jI, jJ, ga, e4]
        exact hQ _ s.ext
      | false =>
        rw [hb] at hQ
        simp (disch := omega) only [WA, ↓reduceIte, jA, jB, jD, jE, jF, jG, jH, jI, jJ, k1', k1, k2', k2, k3', k3, gr, e1, e2, e4, wrap_in, hb]
        refine sep_store (s.pull 1 rfl) (by simp) fun h5 s => ?_
        have s := s.as (ds := [.int .i64 (u.lo : Int), .int .i64 n]) (by simp [t_put])
        have ga := (s.pull 0 rfl).rdAll (n := 2) rfl
        simp (disch := omega) only [WA, ↓reduceIte, jA, jB, jD, jE, jF, jG, jH, jI, jJ, ga, e4]
        exact hQ _ s.ext
  · have d1 := decide_eq_false c1
    simp (disch := omega) only [WA, ↓reduceIte, jA, jB, jD, jE, jF, jG, jH, jI, jJ, c1, d1, e1, e2]
    have hodd : n = 0 ∨ u.val % 2 = 1 := by omega
    rw [← hm, make_end gu hu hodd] at hQ
    by_cases k1 : (24 : Int) < (n : Int)
    · have k1' := decide_eq_true k1
      rw [if_neg (by omega)] at hQ
      simp (disch := omega) only [WA, ↓reduceIte, jA, jB, jD, jE, jF, jG, jH, jI, jJ, k1', k1, gr, e1, e2, e4]
      refine sep_store (s.pull 1 rfl) (by simp) fun h5 s => ?_
      have s := s.as (ds := [.int .i64 0, .int .i64 0]) (by simp [t_put])
      have ga := (s.pull 0 rfl).rdAll (n := 2) rfl
      simp (disch := omega) only [WA, ↓reduceIte, jA, jB, jD, jE, jF, jG, jH, jI, jJ, ga, e4]
      exact hQ _ s.ext
    have k1' := decide_eq_false k1
    by_cases k2 : (0 : Int) < (u.hi : Int)
    · have k2' := decide_eq_true k2
      rw [if_neg (by omega)] at hQ
      simp (disch := omega) only [WA, ↓reduceIte, jA, jB, jD, jE, jF, jG, jH, jI, jJ, k1', k1, k2', k2, gr, e1, e2, e4]
      refine sep_store (s.pull 1 rfl) (by simp) fun h5 s => ?_
      have s := s.as (ds := [.int .i64 0, .int .i64 0]) (by simp [t_put])
      have ga := (s.pull 0 rfl).rdAll (n := 2) rfl
      simp (disch := omega) only [WA, ↓reduceIte, jA, jB, jD, jE, jF, jG, jH, jI, jJ, ga, e4]
      exact hQ _ s.ext
    have k2' := decide_eq_false k2
    by_cases k3 : (1099511627776 : Int) < (u.lo : Int)
    · have k3' := decide_eq_true k3
      rw [if_neg (by omega)] at hQ
      simp (disch := omega) only [WA, ↓reduceIte, jA, jB, jD, jE, jF, jG, jH, jI, jJ, k1', k1, k2', k2, k3', k3, gr, e1, e2, e4]
      refine sep_store (s.pull 1 rfl) (by simp) fun h5 s => ?_
      have s := s.as (ds := [.int .i64 0, .int .i64 0]) (by simp [t_put])
      have ga := (s.pull 0 rfl).rdAll (n := 2) rfl
      simp (disch := omega) only [WA, ↓reduceIte, jA, jB, jD, jE, jF, jG, jH, jI, jJ, ga, e4]
      exact hQ _ s.ext
    have k3' := decide_eq_false k3
    rw [if_pos (by omega)] at hQ
    cases hb : u.neg with
    | true =>
      rw [hb] at hQ
      simp (disch := omega) only [WA, ↓reduceIte, jA, jB, jD, jE, jF, jG, jH, jI, jJ, k1', k1, k2', k2, k3', k3, gr, e1, e2, e4, wrap_in, hb]
      refine sep_store (s.pull 1 rfl) (by simp) fun h5 s => ?_
      have s := s.as (ds := [.int .i64 (-(u.lo : Int)), .int .i64 n]) (by simp [t_put])
      have ga := (s.pull 0 rfl).rdAll (n := 2) rfl
      simp (disch := omega) only [WA, ↓reduceIte, jA, jB, jD, jE, jF, jG, jH, jI, jJ, ga, e4]
      exact hQ _ s.ext
    | false =>
      rw [hb] at hQ
      simp (disch := omega) only [WA, ↓reduceIte, jA, jB, jD, jE, jF, jG, jH, jI, jJ, k1', k1, k2', k2, k3', k3, gr, e1, e2, e4, wrap_in, hb]
      refine sep_store (s.pull 1 rfl) (by simp) fun h5 s => ?_
      have s := s.as (ds := [.int .i64 (u.lo : Int), .int .i64 n]) (by simp [t_put])
      have ga := (s.pull 0 rfl).rdAll (n := 2) rfl
      simp (disch := omega) only [WA, ↓reduceIte, jA, jB, jD, jE, jF, jG, jH, jI, jJ, ga, e4]
      exact hQ _ s.ext
end Go.Proofs
end

section
set_option linter.unusedSimpArgs false
set_option linter.unusedVariables false
set_option maxRecDepth 4000
namespace Go.Proofs
open Go Go.V
open Nat renaming reduceEqDiff → jA, reduceAdd → jB, reduceMul → jD, reduceSub → jE, reduceLeDiff → jF
open Int renaming reduceLT → jG, reduceLE → jH, reduceNeg → jI, reduceEq → jJ
/- Sums. -/
theorem wideM_G {n : Int} (h : n.natAbs < 18446744073709551616) : (wideM n).G := by
  unfold wideM
  exact ⟨by simp, by simp only []; exact h⟩
theorem shl_valM (w : Wd) (k : Nat) : (shlM w k).val = w.val * 2 ^ k := by
  unfold shlM
  rw [wdOf_val]
  unfold Wd.val
  cases w.neg with
  | true => simp [Int.neg_mul]
  | false => simp
theorem shl_magM (w : Wd) (k : Nat) : (shlM w k).mag = w.mag * 2 ^ k := by unfold shlM; rw [wdOf_mag]
theorem up_wide {a : Dy} (ha : DyG a) {k : Nat} (hk : k ≤ 24) : (wideM a.n).mag * 2 ^ k ≤ 18446744073709551616 := by
  rw [wideM_mag]
  have h1 : a.n.natAbs ≤ 1099511627776 := by have := ha.n0; have := ha.n1; omega
  have h2 : (2 : Nat) ^ k ≤ 16777216 := by
    have := Nat.pow_le_pow_right (n := 2) (by decide) hk
    have e : (2 : Nat) ^ 24 = 16777216 := by decide
    omega
  have := Nat.mul_le_mul h1 h2
  omega
theorem addW_G {w v : Wd} (h : w.mag + v.mag < 18446744073709551616 * 18446744073709551616) : (addW w v).G := by
  unfold addW
  split
  · exact wdOf_G _ h
  · split
    · exact wdOf_G _ (by omega)
    · exact wdOf_G _ (by omega)
theorem optV_eq (o : Option Dy) : optV o = .tuple #[.agg (dyC (o.getD ⟨0, 0⟩)).toArray, .bool o.isSome] := rfl
theorem minus_c {a : Dy} {h : Heap} {Q : Value → Heap → Prop} (ha : DyG a) (hQ : ∀ h', Ext h h' → Q (.agg (dyC (negM a)).toArray) h') :
    CallsV Tryz.prog 160 [.agg (dyC a).toArray] h Q := by
  refine CallsV.start Tryz.func160 rfl (by rw [Tryz.results160]) (by kernel_rfl) (by rw [Tryz.ntmps160]; simp) ?_
  have h0 := ha.n0
  have h1 := ha.n1
  have s := Sep.blk2 h (dyC a) [.int .i64 0, .int .i64 0] 97 97 true true
  have g := (s.pull 1 rfl).rd
  simp (disch := omega) only [WA, ↓reduceIte, jA, jB, jD, jE, jF, jG, jH, jI, jJ, g, wrap_in]
  have e : dyC (negM a) = [.int .i64 (0 - a.n), .int .i64 a.k] := by unfold negM; simp only [Int.zero_sub]
  rw [e] at hQ
  exact hQ _ (.app _ _)
theorem sumOf_c {a b : Dy} {h : Heap} {Q : Value → Heap → Prop} (ha : DyG a) (hb : DyG b) (hQ : ∀ h', Ext h h' → Q (optV (sumM' a b)) h') :
    CallsV Tryz.prog 161 [.agg (dyC a).toArray, .agg (dyC b).toArray] h Q := by
  refine CallsV.start Tryz.func161 rfl (by rw [Tryz.results161]) (by kernel_rfl) (by rw [Tryz.ntmps161]; simp) ?_
  have s := Sep.blk3 h (dyC a) (dyC b) [.int .i64 0, .int .i64 0] 97 97 97 true true true
  have hk := kM_le ha hb
  have hka := ha.k0
  have hkb := hb.k0
  have ga := (s.pull 2 rfl).rd
  have gb := (s.pull 1 rfl).rd
  have em : max a.k b.k = ((kM a b : Nat) : Int) := by unfold kM; omega
  have ea : ((kM a b : Nat) : Int) - a.k = ((kM a b - a.k.toNat : Nat) : Int) := by unfold kM; omega
  have eb : ((kM a b : Nat) : Int) - b.k = ((kM a b - b.k.toNat : Nat) : Int) := by unfold kM; omega
  have ma := up_wide ha (k := kM a b - a.k.toNat) (by omega)
  have mb := up_wide hb (k := kM a b - b.k.toNat) (by omega)
  have hn0 := ha.n0
  have hn1 := ha.n1
  have hm0 := hb.n0
  have hm1 := hb.n1
  simp (disch := omega) only [WA, ↓reduceIte, jA, jB, jD, jE, jF, jG, jH, jI, jJ, ga, gb, em]
  refine draw_ord [0, 1, 3, 4, 5, 6, 8, 9, 11, 12, 13, 14, 17, 2, 7, 10, 15, 16, 18, 19, 20, 21, 22] (by kernel_rfl) (by simp only [WLF]; rfl) ?_
  simp (disch := omega) only [WA, ↓reduceIte, jA, jB, jD, jE, jF, jG, jH, jI, jJ, ga, gb]
  refine .inl ⟨by kernel_rfl, ?_⟩; refine wideOf_c (by omega) fun h1 E1 => ?_
  have s := s.mono E1
  have ga := (s.pull 2 rfl).rd
  have gb := (s.pull 1 rfl).rd
  simp (disch := omega) only [WA, ↓reduceIte, jA, jB, jD, jE, jF, jG, jH, jI, jJ, ga, gb, ea, eb, wrap_in]
  refine .inl ⟨by kernel_rfl, ?_⟩; refine shiftL_c (wideM_G (by omega)) (by omega) (by omega) fun h2 E2 => ?_
  have s := s.mono E2
  have ga := (s.pull 2 rfl).rd
  have gb := (s.pull 1 rfl).rd
  simp (disch := omega) only [WA, ↓reduceIte, jA, jB, jD, jE, jF, jG, jH, jI, jJ, ga, gb, ea, eb, wrap_in]
  refine .inl ⟨by kernel_rfl, ?_⟩; refine wideOf_c (by omega) fun h3 E3 => ?_
  have s := s.mono E3
  have ga := (s.pull 2 rfl).rd
  have gb := (s.pull 1 rfl).rd
  simp (disch := omega) only [WA, ↓reduceIte, jA, jB, jD, jE, jF, jG, jH, jI, jJ, ga, gb, ea, eb, wrap_in]
  refine .inl ⟨by kernel_rfl, ?_⟩; refine shiftL_c (wideM_G (by omega)) (by omega) (by omega) fun h4 E4 => ?_
  have s := s.mono E4
  have ga := (s.pull 2 rfl).rd
  have gb := (s.pull 1 rfl).rd
  simp (disch := omega) only [WA, ↓reduceIte, jA, jB, jD, jE, jF, jG, jH, jI, jJ, ga, gb]
  refine .inl ⟨by kernel_rfl, ?_⟩; refine add_c (wdOf_G _ (by omega)) (wdOf_G _ (by omega)) (by rw [shl_magM, shl_magM]; omega) fun h5 E5 => ?_
  have s := s.mono E5
  have ga := (s.pull 2 rfl).rd
  have gb := (s.pull 1 rfl).rd
  simp (disch := omega) only [WA, ↓reduceIte, jA, jB, jD, jE, jF, jG, jH, jI, jJ, ga, gb]
  have am := addW_mag (shlM (wideM a.n) (kM a b - a.k.toNat)) (shlM (wideM b.n) (kM a b - b.k.toNat))
  rw [shl_magM, shl_magM] at am
  have ge : (addW (shlM (wideM a.n) (kM a b - a.k.toNat)) (shlM (wideM b.n) (kM a b - b.k.toNat))).G := addW_G (by rw [shl_magM, shl_magM]; omega)
  refine .inl ⟨by kernel_rfl, ?_⟩; refine fit_c ge (by omega) fun h6 E6 => ?_
  have s := s.mono E6
  have ga := (s.pull 2 rfl).rd
  have gb := (s.pull 1 rfl).rd
  have ev : makeM (addW (shlM (wideM a.n) (kM a b - a.k.toNat)) (shlM (wideM b.n) (kM a b - b.k.toNat))).val (kM a b) = sumM' a b := by
    rw [addW_val, shl_valM, shl_valM, wideM_val, wideM_val]; rfl
  rw [ev, optV_eq]
  simp (disch := omega) only [WA, ↓reduceIte, jA, jB, jD, jE, jF, jG, jH, jI, jJ, ga, gb]
  refine sep_store (s.pull 0 rfl) (by simp) fun h7 s => ?_
  have s := s.as (ds := dyC ((sumM' a b).getD ⟨0, 0⟩)) (by simp [t_put])
  have gz := (s.pull 0 rfl).rdAll (n := 2) rfl
  have ga := (s.pull 2 rfl).rd
  have gb := (s.pull 1 rfl).rd
  simp (disch := omega) only [WA, ↓reduceIte, jA, jB, jD, jE, jF, jG, jH, jI, jJ, ga, gb, gz]
  exact hQ _ s.ext
/-! ### the spec's -/
theorem shl_i (k : Nat) (h : k ≤ 62) : IntKind.wrap .i64 ((1 : Int) * 2 ^ min k 64) = 2 ^ k := by
  have e : min k 64 = k := by omega
  rw [e, Int.one_mul]
  have h1 : (2 : Nat) ^ k ≤ 2 ^ 62 := Nat.pow_le_pow_right (by decide) h
  have e2 : (2 : Nat) ^ 62 = 4611686018427387904 := by decide
  have e3 : ((2 ^ k : Nat) : Int) = (2 : Int) ^ k := by simp
  rw [← e3]
  generalize (2 : Nat) ^ k = p at h1
  exact wrap_in _ (by omega)
theorem dyPow_c {k : Nat} {h : Heap} {Q : Value → Heap → Prop} (hk : k ≤ 62) (hQ : Q (.int .i64 (2 ^ k)) h) : CallsV Tryz.prog 75 [.int .i64 k] h Q := by
  refine CallsV.start Tryz.func75 rfl (by rw [Tryz.results75]) (by kernel_rfl) (by rw [Tryz.ntmps75]; simp) ?_
  have e := shl_i k hk
  have n1 : ¬ (k : Int) < 0 := by omega
  have b64 : IntKind.i64.bits = 64 := rfl
  simp (disch := omega) only [WA, ↓reduceIte, jA, jB, jD, jE, jF, jG, jH, jI, jJ, wrapu_in, n1, b64, e]
  exact hQ
theorem dyGood_c {d : Dy} {h : Heap} {Q : Value → Heap → Prop} (hQ : ∀ h', Ext h h' → Q (.bool (dyM d)) h') : CallsV Tryz.prog 118 [.agg (dyC d).toArray] h Q := by
  refine CallsV.start Tryz.func118 rfl (by rw [Tryz.results118]) (by kernel_rfl) (by rw [Tryz.ntmps118]; simp) ?_
  have s := Sep.blk1 h (dyC d) 97 true
  have g := s.rd
  unfold dyM at hQ
  simp (disch := omega) only [WA, ↓reduceIte, jA, jB, jD, jE, jF, jG, jH, jI, jJ, g]
  refine .inl ⟨by kernel_rfl, ?_⟩; refine l1In_c ?_
  by_cases c1 : 0 ≤ d.k ∧ d.k ≤ 24
  · have d1 := decide_eq_true c1
    rw [d1] at hQ ⊢
    simp (disch := omega) only [WA, ↓reduceIte, jA, jB, jD, jE, jF, jG, jH, jI, jJ, g]
    refine .inl ⟨by kernel_rfl, ?_⟩; refine l1In_c ?_
    by_cases c2 : -1099511627776 ≤ d.n ∧ d.n ≤ 1099511627776
    · have d2 := decide_eq_true c2
      rw [d2] at hQ ⊢
      simp (disch := omega) only [WA, ↓reduceIte, jA, jB, jD, jE, jF, jG, jH, jI, jJ, g]
      by_cases c3 : d.k = 0
      · have d3 := decide_eq_true c3
        rw [d3] at hQ
        simp (disch := omega) only [WA, ↓reduceIte, jA, jB, jD, jE, jF, jG, jH, jI, jJ, c3, d3, g]
        exact hQ _ s.ext
      · have d3 := decide_eq_false c3
        rw [d3] at hQ
        simp (disch := omega) only [WA, ↓reduceIte, jA, jB, jD, jE, jF, jG, jH, jI, jJ, c3, d3, g]
        simpa using hQ _ s.ext
    · have d2 := decide_eq_false c2
      rw [d2] at hQ ⊢
      simp (disch := omega) only [WA, ↓reduceIte, jA, jB, jD, jE, jF, jG, jH, jI, jJ, g]
      exact hQ _ s.ext
  · have d1 := decide_eq_false c1
    rw [d1] at hQ ⊢
    simp (disch := omega) only [WA, ↓reduceIte, jA, jB, jD, jE, jF, jG, jH, jI, jJ, g]
    exact hQ _ s.ext
end Go.Proofs
end

/- Contracts of functions, facts of types, or the plain law behind one statement (own work): IL. Conditions: those told in each theorem. -/
import Derived.Test.YtlnephhhcofilaaGreatIK
import Derived.Test.YtlnephhhcofilaaGreatYJ
import Derived.Test.YtlnephhhcofilaaGreatIE
set_option linter.all false
set_option linter.unusedSimpArgs false
set_option linter.unusedVariables false
set_option maxRecDepth 4000
namespace Go.Proofs
open Go Go.V
open Nat renaming reduceEqDiff → jA, reduceAdd → jB, reduceMul → jD, reduceSub → jE, reduceLeDiff → jF
open Int renaming reduceLT → jG, reduceLE → jH, reduceNeg → jI, reduceEq → jJ
/- The reference's intervals. -/
theorem dyInt_c {n : Int} {h : Heap} {Q : Value → Heap → Prop} (hQ : ∀ h', Ext h h' → Q (.agg (dyC ⟨n, 0⟩).toArray) h') : CallsV Tryz.prog 132 [.int .i64 n] h Q := by
  refine CallsV.start Tryz.func132 rfl (by rw [Tryz.results132]) (by kernel_rfl) (by rw [Tryz.ntmps132]; simp) ?_
  simp (disch := omega) only [WA, ↓reduceIte, jA, jB, jD, jE, jF, jG, jH, jI, jJ]
  exact hQ _ (.one _ _)
theorem vaPure_c {d : Dy} {h : Heap} {Q : Value → Heap → Prop} (hQ : ∀ h', Ext h h' → Q (.agg (ivC ⟨d, d⟩).toArray) h') : CallsV Tryz.prog 109 [.agg (dyC d).toArray] h Q := by
  refine CallsV.start Tryz.func109 rfl (by rw [Tryz.results109]) (by kernel_rfl) (by rw [Tryz.ntmps109]; simp) ?_
  simp (disch := omega) only [WA, ↓reduceIte, jA, jB, jD, jE, jF, jG, jH, jI, jJ]
  exact hQ _ (.app _ _)
theorem ivZero_c {i : Iv} {h : Heap} {Q : Value → Heap → Prop} (hQ : ∀ h', Ext h h' → Q (.bool (zeroB i)) h') : CallsV Tryz.prog 136 [.agg (ivC i).toArray] h Q := by
  refine CallsV.start Tryz.func136 rfl (by rw [Tryz.results136]) (by kernel_rfl) (by rw [Tryz.ntmps136]; simp) ?_
  have s := Sep.blk1 h (ivC i) 122 true
  unfold zeroB at hQ
  simp (disch := omega) only [WA, ↓reduceIte, jA, jB, jD, jE, jF, jG, jH, jI, jJ]
  by_cases c1 : i.low.n ≤ 0
  · have d1 := decide_eq_true c1
    rw [d1] at hQ
    simp (disch := omega) only [WA, ↓reduceIte, jA, jB, jD, jE, jF, jG, jH, jI, jJ, d1, c1]
    exact hQ _ s.ext
  · have d1 := decide_eq_false c1
    rw [d1] at hQ
    simp (disch := omega) only [WA, ↓reduceIte, jA, jB, jD, jE, jF, jG, jH, jI, jJ, d1, c1]
    exact hQ _ s.ext
theorem ivSign_c {i : Iv} {h : Heap} {Q : Value → Heap → Prop} (hi : IvG i) (hQ : ∀ h', Ext h h' → Q (.int .i64 (sgI i)) h') : CallsV Tryz.prog 120 [.agg (ivC i).toArray] h Q := by
  refine CallsV.start Tryz.func120 rfl (by rw [Tryz.results120]) (by kernel_rfl) (by rw [Tryz.ntmps120]; simp) ?_
  have s := Sep.blk1 h (ivC i) 122 true
  rw [sgI_ref hi] at hQ
  simp (disch := omega) only [WA, ↓reduceIte, jA, jB, jD, jE, jF, jG, jH, jI, jJ]
  refine .inl ⟨by kernel_rfl, ?_⟩; refine ivZero_c fun h1 E1 => ?_
  have s := s.mono E1
  have gi := ivRd s
  by_cases z : zeroB i = true
  · rw [if_pos z] at hQ
    simp (disch := omega) only [WA, ↓reduceIte, jA, jB, jD, jE, jF, jG, jH, jI, jJ, z]
    exact hQ _ s.ext
  · rw [if_neg z] at hQ
    have z' : zeroB i = false := by simpa using z
    simp (disch := omega) only [WA, ↓reduceIte, jA, jB, jD, jE, jF, jG, jH, jI, jJ, z', gi]
    refine .inl ⟨by kernel_rfl, ?_⟩; refine l1Sign_c ?_
    simp (disch := omega) only [WA, ↓reduceIte, jA, jB, jD, jE, jF, jG, jH, jI, jJ]
    exact hQ _ s.ext
theorem ivBoth_c {x y : Dy} {p q : Bool} {h : Heap} {Q : Value → Heap → Prop} (hQ : ∀ h', Ext h h' → Q (.tuple #[.agg (ivC (if p = true ∧ q = true then ⟨x, y⟩ else ⟨⟨0, 0⟩, ⟨0, 0⟩⟩)).toArray, .bool (p && q)]) h') :
    CallsV Tryz.prog 148 [.agg (dyC x).toArray, .bool p, .agg (dyC y).toArray, .bool q] h Q := by
  refine CallsV.start Tryz.func148 rfl (by rw [Tryz.results148]) (by kernel_rfl) (by rw [Tryz.ntmps148]; simp) ?_
  have s := Sep.blk3 h (dyC x) (dyC y) [.int .i64 0, .int .i64 0, .int .i64 0, .int .i64 0] 97 97 122 true true true
  cases p with
  | false =>
    simp (disch := omega) only [WA, ↓reduceIte, jA, jB, jD, jE, jF, jG, jH, jI, jJ]
    exact hQ _ s.ext
  | true =>
    cases q with
    | false =>
      simp (disch := omega) only [WA, ↓reduceIte, jA, jB, jD, jE, jF, jG, jH, jI, jJ]
      exact hQ _ s.ext
    | true =>
      simp (disch := omega) only [WA, ↓reduceIte, jA, jB, jD, jE, jF, jG, jH, jI, jJ]
      exact hQ _ (.app _ _)
theorem dyRound_c {a : Dy} {h : Heap} {Q : Value → Heap → Prop} (ha : DyG a) (hQ : ∀ h', Ext h h' → Q (.agg (dyC (rdM a)).toArray) h') :
    CallsV Tryz.prog 153 [.agg (dyC a).toArray, .int .i64 16] h Q := by
  refine CallsV.start Tryz.func153 rfl (by rw [Tryz.results153]) (by kernel_rfl) (by rw [Tryz.ntmps153]; simp) ?_
  have s := Sep.blk2 h (dyC a) [.int .i64 0, .int .i64 0] 97 97 true true
  have ga := (s.pull 1 rfl).rd
  have fa := (s.pull 1 rfl).rdAll (n := 2) rfl
  have ak0 := ha.k0
  have ak1 := ha.k1
  unfold rdM at hQ
  by_cases c : a.k ≤ 16
  · rw [if_pos c] at hQ
    simp (disch := omega) only [WA, ↓reduceIte, jA, jB, jD, jE, jF, jG, jH, jI, jJ, ga, fa, c]
    exact hQ _ (.app _ _)
  · rw [if_neg c] at hQ
    have ek : a.k - 16 = ((a.k.toNat - 16 : Nat) : Int) := by omega
    have hin := div_in (a.k.toNat - 16) ⟨ha.n0, ha.n1⟩
    simp (disch := omega) only [WA, ↓reduceIte, jA, jB, jD, jE, jF, jG, jH, jI, jJ, ga, fa, c]
    generalize h ++ [some ⟨dyC a, 97, false, true⟩, some ⟨[.int .i64 0, .int .i64 0], 97, false, true⟩] = H0 at s ⊢
    clear ga fa
    have ga := (s.pull 1 rfl).rd
    refine draw_tail [0, 1, 2, 3, 4, 5, 8] [6, 7, 9, 10, 11, 12, 13, 14, 15] (by kernel_rfl) (by simp only [WLF]; rfl) ?_
    simp (disch := omega) only [WA, ↓reduceIte, jA, jB, jD, jE, jF, jG, jH, jI, jJ, ga, ek, wrap_in]
    -- BEGIN dyRound
    refine tail_step [(6, [], [7, 9, 10, 11, 12, 13, 14, 15], false), (13, [], [6, 7, 9, 10, 11, 12, 14, 15], false)] (by kernel_rfl) (by kernel_rfl) (a_cons (by simp only [WLF]; rfl) (by kernel_rfl) ?_ (a_cons (by simp only [WLF]; rfl) (by kernel_rfl) ?_ trivial))
    · skip
      have ga := (s.pull 1 rfl).rd
      try simp (disch := omega) only [WA, ↓reduceIte, jA, jB, jD, jE, jF, jG, jH, jI, jJ, ek, wrap_in, ga]
      refine .inl ⟨by kernel_rfl, ?_⟩; refine dyPow_c (k := a.k.toNat - 16) (by omega) ?_
      have ga := (s.pull 1 rfl).rd
      try simp (disch := omega) only [WA, ↓reduceIte, jA, jB, jD, jE, jF, jG, jH, jI, jJ, ek, wrap_in, ga]
      refine tail_step [(7, [], [9, 10, 11, 12, 13, 14, 15], false), (13, [], [7, 9, 10, 11, 12, 14, 15], false)] (by kernel_rfl) (by kernel_rfl) (a_cons (by simp only [WLF]; rfl) (by kernel_rfl) ?_ (a_cons (by simp only [WLF]; rfl) (by kernel_rfl) ?_ trivial))
      · skip
        have ga := (s.pull 1 rfl).rd
        try simp (disch := omega) only [WA, ↓reduceIte, jA, jB, jD, jE, jF, jG, jH, jI, jJ, ek, wrap_in, ga]
        refine .inl ⟨by kernel_rfl, ?_⟩; refine dyDown_c ⟨ha.n0, ha.n1⟩ (Int.pow_pos (by decide)) ?_
        have ga := (s.pull 1 rfl).rd
        try simp (disch := omega) only [WA, ↓reduceIte, jA, jB, jD, jE, jF, jG, jH, jI, jJ, ek, wrap_in, ga]
        refine tail_step [(9, [10, 11, 12], [13, 14, 15], true), (13, [], [9, 10, 11, 12, 14, 15], false)] (by kernel_rfl) (by kernel_rfl) (a_cut (by simp only [WLF]; rfl) (by kernel_rfl) ?_ (a_cons (by simp only [WLF]; rfl) (by kernel_rfl) ?_ trivial))
        · skip
          have ga := (s.pull 1 rfl).rd
          try simp (disch := omega) only [WA, ↓reduceIte, jA, jB, jD, jE, jF, jG, jH, jI, jJ, ek, wrap_in, ga]
          refine .inl ⟨by kernel_rfl, ?_⟩; refine dyMake_c (n := a.n / 2 ^ (a.k.toNat - 16)) (k := 16) (by unfold inI64; omega) (by omega) fun hh EE => ?_
          have s := s.mono EE
          rw [optV_eq]
          have ga := (s.pull 1 rfl).rd
          try simp (disch := omega) only [WA, ↓reduceIte, jA, jB, jD, jE, jF, jG, jH, jI, jJ, ek, wrap_in, ga]
          refine tail_step [(13, [], [14, 15], false)] (by kernel_rfl) (by kernel_rfl) (a_cons (by simp only [WLF]; rfl) (by kernel_rfl) ?_ trivial)
          have ga := (s.pull 1 rfl).rd
          try simp (disch := omega) only [WA, ↓reduceIte, jA, jB, jD, jE, jF, jG, jH, jI, jJ, ek, wrap_in, ga]
          have s := s.newBlk [.int .i64 0, .int .i64 0] 97 true
          generalize hE13 : _ ++ [_] = hN at s ⊢
          have ga := (s.pull 2 rfl).rd
          try simp (disch := omega) only [WA, ↓reduceIte, jA, jB, jD, jE, jF, jG, jH, jI, jJ, ek, wrap_in, ga]
          refine tail_step [(14, [15], [], false)] (by kernel_rfl) (by kernel_rfl) (a_cons (by simp only [WLF]; rfl) (by kernel_rfl) ?_ trivial)
          have ga := (s.pull 2 rfl).rd
          try simp (disch := omega) only [WA, ↓reduceIte, jA, jB, jD, jE, jF, jG, jH, jI, jJ, ek, wrap_in, ga]
          refine sep_store (s.pull 0 rfl) (by simp) fun hh s => ?_
          have s := s.as (ds := dyC ((makeM (a.n / 2 ^ (a.k.toNat - 16)) 16).getD ⟨0, 0⟩)) (by simp [t_put])
          have ga := (s.pull 2 rfl).rd
          try simp (disch := omega) only [WA, ↓reduceIte, jA, jB, jD, jE, jF, jG, jH, jI, jJ, ek, wrap_in, ga]
          have gz := (s.pull 0 rfl).rdAll (n := 2) rfl
          simp (disch := omega) only [WA, ↓reduceIte, jA, jB, jD, jE, jF, jG, jH, jI, jJ, gz]
          refine sep_store (s.pull 1 rfl) (by simp) fun h7 s => ?_
          have s := s.as (ds := dyC ((makeM (a.n / 2 ^ (a.k.toNat - 16)) 16).getD ⟨0, 0⟩)) (by simp [t_put])
          have gz := (s.pull 0 rfl).rdAll (n := 2) rfl
          simp (disch := omega) only [WA, ↓reduceIte, jA, jB, jD, jE, jF, jG, jH, jI, jJ, gz]
          exact hQ _ s.ext
        · skip
          have ga := (s.pull 1 rfl).rd
          try simp (disch := omega) only [WA, ↓reduceIte, jA, jB, jD, jE, jF, jG, jH, jI, jJ, ek, wrap_in, ga]
          have s := s.newBlk [.int .i64 0, .int .i64 0] 97 true
          generalize hE13 : _ ++ [_] = hN at s ⊢
          have ga := (s.pull 2 rfl).rd
          try simp (disch := omega) only [WA, ↓reduceIte, jA, jB, jD, jE, jF, jG, jH, jI, jJ, ek, wrap_in, ga]
          refine tail_step [(9, [10, 11, 12], [14, 15], false)] (by kernel_rfl) (by kernel_rfl) (a_cons (by simp only [WLF]; rfl) (by kernel_rfl) ?_ trivial)
          have ga := (s.pull 2 rfl).rd
          try simp (disch := omega) only [WA, ↓reduceIte, jA, jB, jD, jE, jF, jG, jH, jI, jJ, ek, wrap_in, ga]
          refine .inl ⟨by kernel_rfl, ?_⟩; refine dyMake_c (n := a.n / 2 ^ (a.k.toNat - 16)) (k := 16) (by unfold inI64; omega) (by omega) fun hh EE => ?_
          have s := s.mono EE
          rw [optV_eq]
          have ga := (s.pull 2 rfl).rd
          try simp (disch := omega) only [WA, ↓reduceIte, jA, jB, jD, jE, jF, jG, jH, jI, jJ, ek, wrap_in, ga]
          refine tail_step [(14, [15], [], false)] (by kernel_rfl) (by kernel_rfl) (a_cons (by simp only [WLF]; rfl) (by kernel_rfl) ?_ trivial)
          have ga := (s.pull 2 rfl).rd
          try simp (disch := omega) only [WA, ↓reduceIte, jA, jB, jD, jE, jF, jG, jH, jI, jJ, ek, wrap_in, ga]
          refine sep_store (s.pull 0 rfl) (by simp) fun hh s => ?_
          have s := s.as (ds := dyC ((makeM (a.n / 2 ^ (a.k.toNat - 16)) 16).getD ⟨0, 0⟩)) (by simp [t_put])
          have ga := (s.pull 2 rfl).rd
          try simp (disch := omega) only [WA, ↓reduceIte, jA, jB, jD, jE, jF, jG, jH, jI, jJ, ek, wrap_in, ga]
          have gz := (s.pull 0 rfl).rdAll (n := 2) rfl
          simp (disch := omega) only [WA, ↓reduceIte, jA, jB, jD, jE, jF, jG, jH, jI, jJ, gz]
          refine sep_store (s.pull 1 rfl) (by simp) fun h7 s => ?_
          have s := s.as (ds := dyC ((makeM (a.n / 2 ^ (a.k.toNat - 16)) 16).getD ⟨0, 0⟩)) (by simp [t_put])
          have gz := (s.pull 0 rfl).rdAll (n := 2) rfl
          simp (disch := omega) only [WA, ↓reduceIte, jA, jB, jD, jE, jF, jG, jH, jI, jJ, gz]
          exact hQ _ s.ext
      · skip
        have ga := (s.pull 1 rfl).rd
        try simp (disch := omega) only [WA, ↓reduceIte, jA, jB, jD, jE, jF, jG, jH, jI, jJ, ek, wrap_in, ga]
        have s := s.newBlk [.int .i64 0, .int .i64 0] 97 true
        generalize hE13 : _ ++ [_] = hN at s ⊢
        have ga := (s.pull 2 rfl).rd
        try simp (disch := omega) only [WA, ↓reduceIte, jA, jB, jD, jE, jF, jG, jH, jI, jJ, ek, wrap_in, ga]
        refine tail_step [(7, [], [9, 10, 11, 12, 14, 15], false)] (by kernel_rfl) (by kernel_rfl) (a_cons (by simp only [WLF]; rfl) (by kernel_rfl) ?_ trivial)
        have ga := (s.pull 2 rfl).rd
        try simp (disch := omega) only [WA, ↓reduceIte, jA, jB, jD, jE, jF, jG, jH, jI, jJ, ek, wrap_in, ga]
        refine .inl ⟨by kernel_rfl, ?_⟩; refine dyDown_c ⟨ha.n0, ha.n1⟩ (Int.pow_pos (by decide)) ?_
        have ga := (s.pull 2 rfl).rd
        try simp (disch := omega) only [WA, ↓reduceIte, jA, jB, jD, jE, jF, jG, jH, jI, jJ, ek, wrap_in, ga]
        refine tail_step [(9, [10, 11, 12], [14, 15], false)] (by kernel_rfl) (by kernel_rfl) (a_cons (by simp only [WLF]; rfl) (by kernel_rfl) ?_ trivial)
        have ga := (s.pull 2 rfl).rd
        try simp (disch := omega) only [WA, ↓reduceIte, jA, jB, jD, jE, jF, jG, jH, jI, jJ, ek, wrap_in, ga]
        refine .inl ⟨by kernel_rfl, ?_⟩; refine dyMake_c (n := a.n / 2 ^ (a.k.toNat - 16)) (k := 16) (by unfold inI64; omega) (by omega) fun hh EE => ?_
        have s := s.mono EE
        rw [optV_eq]
        have ga := (s.pull 2 rfl).rd
        try simp (disch := omega) only [WA, ↓reduceIte, jA, jB, jD, jE, jF, jG, jH, jI, jJ, ek, wrap_in, ga]
        refine tail_step [(14, [15], [], false)] (by kernel_rfl) (by kernel_rfl) (a_cons (by simp only [WLF]; rfl) (by kernel_rfl) ?_ trivial)
        have ga := (s.pull 2 rfl).rd
        try simp (disch := omega) only [WA, ↓reduceIte, jA, jB, jD, jE, jF, jG, jH, jI, jJ, ek, wrap_in, ga]
        refine sep_store (s.pull 0 rfl) (by simp) fun hh s => ?_
        have s := s.as (ds := dyC ((makeM (a.n / 2 ^ (a.k.toNat - 16)) 16).getD ⟨0, 0⟩)) (by simp [t_put])
        have ga := (s.pull 2 rfl).rd
        try simp (disch := omega) only [WA, ↓reduceIte, jA, jB, jD, jE, jF, jG, jH, jI, jJ, ek, wrap_in, ga]
        have gz := (s.pull 0 rfl).rdAll (n := 2) rfl
        simp (disch := omega) only [WA, ↓reduceIte, jA, jB, jD, jE, jF, jG, jH, jI, jJ, gz]
        refine sep_store (s.pull 1 rfl) (by simp) fun h7 s => ?_
        have s := s.as (ds := dyC ((makeM (a.n / 2 ^ (a.k.toNat - 16)) 16).getD ⟨0, 0⟩)) (by simp [t_put])
        have gz := (s.pull 0 rfl).rdAll (n := 2) rfl
        simp (disch := omega) only [WA, ↓reduceIte, jA, jB, jD, jE, jF, jG, jH, jI, jJ, gz]
        exact hQ _ s.ext
    · skip
      have ga := (s.pull 1 rfl).rd
      try simp (disch := omega) only [WA, ↓reduceIte, jA, jB, jD, jE, jF, jG, jH, jI, jJ, ek, wrap_in, ga]
      have s := s.newBlk [.int .i64 0, .int .i64 0] 97 true
      generalize hE13 : _ ++ [_] = hN at s ⊢
      have ga := (s.pull 2 rfl).rd
      try simp (disch := omega) only [WA, ↓reduceIte, jA, jB, jD, jE, jF, jG, jH, jI, jJ, ek, wrap_in, ga]
      refine tail_step [(6, [], [7, 9, 10, 11, 12, 14, 15], false)] (by kernel_rfl) (by kernel_rfl) (a_cons (by simp only [WLF]; rfl) (by kernel_rfl) ?_ trivial)
      have ga := (s.pull 2 rfl).rd
      try simp (disch := omega) only [WA, ↓reduceIte, jA, jB, jD, jE, jF, jG, jH, jI, jJ, ek, wrap_in, ga]
      refine .inl ⟨by kernel_rfl, ?_⟩; refine dyPow_c (k := a.k.toNat - 16) (by omega) ?_
      have ga := (s.pull 2 rfl).rd
      try simp (disch := omega) only [WA, ↓reduceIte, jA, jB, jD, jE, jF, jG, jH, jI, jJ, ek, wrap_in, ga]
      refine tail_step [(7, [], [9, 10, 11, 12, 14, 15], false)] (by kernel_rfl) (by kernel_rfl) (a_cons (by simp only [WLF]; rfl) (by kernel_rfl) ?_ trivial)
      have ga := (s.pull 2 rfl).rd
      try simp (disch := omega) only [WA, ↓reduceIte, jA, jB, jD, jE, jF, jG, jH, jI, jJ, ek, wrap_in, ga]
      refine .inl ⟨by kernel_rfl, ?_⟩; refine dyDown_c ⟨ha.n0, ha.n1⟩ (Int.pow_pos (by decide)) ?_
      have ga := (s.pull 2 rfl).rd
      try simp (disch := omega) only [WA, ↓reduceIte, jA, jB, jD, jE, jF, jG, jH, jI, jJ, ek, wrap_in, ga]
      refine tail_step [(9, [10, 11, 12], [14, 15], false)] (by kernel_rfl) (by kernel_rfl) (a_cons (by simp only [WLF]; rfl) (by kernel_rfl) ?_ trivial)
      have ga := (s.pull 2 rfl).rd
      try simp (disch := omega) only [WA, ↓reduceIte, jA, jB, jD, jE, jF, jG, jH, jI, jJ, ek, wrap_in, ga]
      refine .inl ⟨by kernel_rfl, ?_⟩; refine dyMake_c (n := a.n / 2 ^ (a.k.toNat - 16)) (k := 16) (by unfold inI64; omega) (by omega) fun hh EE => ?_
      have s := s.mono EE
      rw [optV_eq]
      have ga := (s.pull 2 rfl).rd
      try simp (disch := omega) only [WA, ↓reduceIte, jA, jB, jD, jE, jF, jG, jH, jI, jJ, ek, wrap_in, ga]
      refine tail_step [(14, [15], [], false)] (by kernel_rfl) (by kernel_rfl) (a_cons (by simp only [WLF]; rfl) (by kernel_rfl) ?_ trivial)
      have ga := (s.pull 2 rfl).rd
      try simp (disch := omega) only [WA, ↓reduceIte, jA, jB, jD, jE, jF, jG, jH, jI, jJ, ek, wrap_in, ga]
      refine sep_store (s.pull 0 rfl) (by simp) fun hh s => ?_
      have s := s.as (ds := dyC ((makeM (a.n / 2 ^ (a.k.toNat - 16)) 16).getD ⟨0, 0⟩)) (by simp [t_put])
      have ga := (s.pull 2 rfl).rd
      try simp (disch := omega) only [WA, ↓reduceIte, jA, jB, jD, jE, jF, jG, jH, jI, jJ, ek, wrap_in, ga]
      have gz := (s.pull 0 rfl).rdAll (n := 2) rfl
      simp (disch := omega) only [WA, ↓reduceIte, jA, jB, jD, jE, jF, jG, jH, jI, jJ, gz]
      refine sep_store (s.pull 1 rfl) (by simp) fun h7 s => ?_
      have s := s.as (ds := dyC ((makeM (a.n / 2 ^ (a.k.toNat - 16)) 16).getD ⟨0, 0⟩)) (by simp [t_put])
      have gz := (s.pull 0 rfl).rdAll (n := 2) rfl
      simp (disch := omega) only [WA, ↓reduceIte, jA, jB, jD, jE, jF, jG, jH, jI, jJ, gz]
      exact hQ _ s.ext
    -- END dyRound
end Go.Proofs

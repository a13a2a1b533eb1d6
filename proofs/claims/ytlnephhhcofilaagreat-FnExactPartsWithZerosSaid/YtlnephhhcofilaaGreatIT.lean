/- Contracts of functions, facts of types, or the plain law behind one statement (own work): IT. Conditions: those told in each theorem. -/
import Derived.Test.YtlnephhhcofilaaGreatMS
import Derived.Test.YtlnephhhcofilaaGreatIQ
set_option linter.all false
set_option linter.unusedSimpArgs false
set_option linter.unusedVariables false
set_option maxRecDepth 4000
namespace Go.Proofs
open Go Go.V
open Nat renaming reduceEqDiff → jA, reduceAdd → jB, reduceMul → jD, reduceSub → jE, reduceLeDiff → jF
open Int renaming reduceLT → jG, reduceLE → jH, reduceNeg → jI, reduceEq → jJ
theorem poGood_c {p : List Tm} {v : Value} {h : Heap} {Q : Value → Heap → Prop} (rp : Row h p v) (hQ : ∀ h', Ext h h' → Q (.bool (polyB p)) h') : CallsV Tryz.prog 81 [v] h Q := by
  refine CallsV.start Tryz.func81 rfl (by rw [Tryz.results81]) (by kernel_rfl) (by rw [Tryz.ntmps81]; simp) ?_
  have hle := rp.le
  simp (disch := omega) only [WA, ↓reduceIte, jA, jB, jD, jE, jF, jG, jH, jI, jJ, rp.isRow.len]
  refine loop_rule (fun m e h' => ∃ (i : Nat) (ps : Option Tm), e 0 = v ∧ e 5 = v ∧ e 6 = .int .i64 p.length ∧ e 7 = .int .i64 i ∧ i ≤ p.length ∧ m = p.length - i ∧ Prev p i ps ∧ polyB p = (polyF ps (p.drop i) && decide (p.length ≤ 20)) ∧ Ext h h') ?_ p.length _ _
    ⟨0, none, rfl, rfl, rfl, rfl, by omega, by omega, .inl ⟨rfl, rfl⟩, rfl, .refl h⟩
  rintro m e h1 ⟨i, ps, e0, e5, e6, e7, hi, rfl, hps, hv, E⟩
  simp (disch := omega) only [WA, ↓reduceIte, jA, jB, jD, jE, jF, jG, jH, jI, jJ, e6, e7]
  by_cases c : i < p.length
  · obtain ⟨t, ht⟩ := get_some c
    have c1 : (i : Int) < (p.length : Int) := by omega
    have x3 := row_tm (rp.mono E) ht
    rw [polyF_drop ht] at hv
    have s := (Sep.nil E).newBlk (tmC t) 59 true
    simp (disch := omega) only [WA, ↓reduceIte, jA, jB, jD, jE, jF, jG, jH, jI, jJ, c1, e5, e7, rp.isRow.ix, x3]
    generalize hH : h1 ++ [some ⟨tmC t, 59, false, true⟩] = H1 at s ⊢
    have g := s.rd
    have ga := s.rdAll (n := 4) rfl
    refine draw_ord [0, 1, 2, 3, 4, 5, 6, 7, 8, 9, 10, 11, 12, 13, 14, 15, 16, 17, 18, 19, 20, 21] (by kernel_rfl) (by simp only [WLF]; rfl) ?_
    simp (disch := omega) only [WA, ↓reduceIte, jA, jB, jD, jE, jF, jG, jH, jI, jJ, g, ga]
    have bad : (tmB t && decide (t.c ≠ 0) && prevB ps t) = false → polyB p = false := fun hb => by rw [hv, hb]; simp
    refine .inl ⟨by kernel_rfl, ?_⟩; refine poTerm_c fun h2 E2 => ?_
    have s := s.mono E2
    have g := s.rd
    have ga := s.rdAll (n := 4) rfl
    cases hb : tmB t with
    | false =>
      rw [bad (by rw [hb]; rfl)] at hQ
      simp (disch := omega) only [WA, ↓reduceIte, jA, jB, jD, jE, jF, jG, jH, jI, jJ, g, ga]
      exact hQ _ s.ext
    | true =>
      by_cases c0 : t.c = 0
      · have d0 := decide_eq_true c0
        rw [bad (by rw [decide_eq_false (show ¬ t.c ≠ 0 from fun hh => hh c0)]; simp)] at hQ
        simp (disch := omega) only [WA, ↓reduceIte, jA, jB, jD, jE, jF, jG, jH, jI, jJ, d0, g, ga]
        exact hQ _ s.ext
      · have d0 := decide_eq_false c0
        rcases hps with ⟨rfl, rfl⟩ | ⟨hpos, x, rfl, hx, hxb⟩
        · have z : ¬ (0 : Int) < ((0 : Nat) : Int) := by decide
          have z' : decide ((0 : Int) < ((0 : Nat) : Int)) = false := rfl
          simp (disch := omega) only [WA, ↓reduceIte, jA, jB, jD, jE, jF, jG, jH, jI, jJ, d0, g, ga, z, z', e7, wrap_in]
          refine ⟨_, by omega, 1, some t, e0, e5, e6, by simp, by omega, rfl, .inr ⟨by omega, t, rfl, ht, hb⟩, ?_, s.ext⟩
          rw [hv, hb, decide_eq_true (show t.c ≠ 0 from c0)]; rfl
        · have z : (0 : Int) < (i : Int) := by omega
          have dz := decide_eq_true z
          have i1 : (i : Int) - 1 = ((i - 1 : Nat) : Int) := by omega
          have i2 : ((i - 1 : Nat) : Int) < (p.length : Int) := by omega
          have y3 := row_tm (rp.mono s.ext) hx
          simp (disch := omega) only [WA, ↓reduceIte, jA, jB, jD, jE, jF, jG, jH, jI, jJ, d0, g, ga, z, dz, e0, i1, i2, wrap_in, rp.isRow.ix, y3]
          refine .inl ⟨by kernel_rfl, ?_⟩; refine poOrder_c (tmB_G hxb) (tmB_G hb) fun h3 E3 => ?_
          have s := s.mono E3
          have g := s.rd
          have ga := s.rdAll (n := 4) rfl
          have y3 := row_tm (rp.mono s.ext) hx
          by_cases co : ordM x t < 0
          · have nco : ¬ 0 ≤ ordM x t := by omega
            have dco := decide_eq_false nco
            simp (disch := omega) only [WA, ↓reduceIte, jA, jB, jD, jE, jF, jG, jH, jI, jJ, g, ga, y3, nco, dco, e7, wrap_in]
            refine ⟨_, by omega, i + 1, some t, e0, e5, e6, by simp, by omega, rfl, .inr ⟨by omega, t, rfl, ht, hb⟩, ?_, s.ext⟩
            rw [hv, hb, decide_eq_true (show t.c ≠ 0 from c0)]
            have : prevB (some x) t = true := decide_eq_true co
            rw [this]; rfl
          · have nco : 0 ≤ ordM x t := by omega
            have dco := decide_eq_true nco
            have : prevB (some x) t = false := decide_eq_false co
            rw [bad (by rw [this]; simp)] at hQ
            simp (disch := omega) only [WA, ↓reduceIte, jA, jB, jD, jE, jF, jG, jH, jI, jJ, g, ga, y3, nco, dco]
            exact hQ _ s.ext
  · obtain rfl : i = p.length := by omega
    have c1 : ¬ (p.length : Int) < (p.length : Int) := by omega
    rw [List.drop_length] at hv
    have hv : polyB p = decide (p.length ≤ 20) := by rw [hv]; rfl
    have ed : decide ((p.length : Int) ≤ 20) = decide (p.length ≤ 20) := decide_eq_decide.2 (by omega)
    simp (disch := omega) only [WA, ↓reduceIte, jA, jB, jD, jE, jF, jG, jH, jI, jJ, c1, e0, rp.isRow.len, ed]
    rw [← hv]
    exact hQ _ E
/-- Which unknowns a polynomial needs. -/
def needT (n : Nat) (t : Tm) : Bool := (List.range 3).all fun u => !(decide (n ≤ u) && decide (0 < exM t u))
def needB (n : Nat) (p : List Tm) : Bool := p.all (needT n)
theorem needT_iff {n : Nat} {t : Tm} : needT n t = true ↔ ∀ u, u < 3 → n ≤ u → ¬ 0 < exM t u := by
  unfold needT
  rw [List.all_eq_true]
  constructor
  · intro h u h1 h2
    have := h u (List.mem_range.2 h1)
    simp only [Bool.not_eq_true', Bool.and_eq_false_iff, decide_eq_false_iff_not] at this
    rcases this with h3 | h3
    · exact absurd h2 h3
    · exact h3
  · intro h u hu
    have := h u (List.mem_range.1 hu)
    simp only [Bool.not_eq_true', Bool.and_eq_false_iff, decide_eq_false_iff_not]
    by_cases c : n ≤ u
    · exact .inr (this c)
    · exact .inl c
theorem needsAtMost_c {p : List Tm} {n : Nat} {v : Value} {h : Heap} {Q : Value → Heap → Prop} (rp : Row h p v) (hQ : ∀ h', Ext h h' → Q (.bool (needB n p)) h') : CallsV Tryz.prog 93 [v, .int .i64 n] h Q := by
  refine CallsV.start Tryz.func93 rfl (by rw [Tryz.results93]) (by kernel_rfl) (by rw [Tryz.ntmps93]; simp) ?_
  have hle := rp.le
  simp (disch := omega) only [WA, ↓reduceIte, jA, jB, jD, jE, jF, jG, jH, jI, jJ, rp.isRow.len]
  refine loop_rule (fun m e h' => ∃ (i : Nat), e 1 = .int .i64 n ∧ e 9 = v ∧ e 10 = .int .i64 p.length ∧ e 11 = .int .i64 i ∧ i ≤ p.length ∧ m = p.length - i ∧ (p.take i).all (needT n) = true ∧ Ext h h') ?_ p.length _ _
    ⟨0, rfl, rfl, rfl, rfl, by omega, by omega, rfl, .refl h⟩
  rintro m e h1 ⟨i, e1, e9, e10, e11, hi, rfl, hall, E⟩
  simp (disch := omega) only [WA, ↓reduceIte, jA, jB, jD, jE, jF, jG, jH, jI, jJ, e10, e11]
  by_cases c : i < p.length
  · obtain ⟨t, ht⟩ := get_some c
    have c1 : (i : Int) < (p.length : Int) := by omega
    have x3 := row_tm (rp.mono E) ht
    have s := (Sep.nil E).newBlk (tmC t) 59 true
    simp (disch := omega) only [WA, ↓reduceIte, jA, jB, jD, jE, jF, jG, jH, jI, jJ, c1, e9, e11, rp.isRow.ix, x3]
    refine .inl ⟨by kernel_rfl, ?_⟩; refine exps_c fun h2 E2 => ?_
    have s := s.mono E2
    simp (disch := omega) only [WA, ↓reduceIte, jA, jB, jD, jE, jF, jG, jH, jI, jJ]
    refine loop_rule (fun m e h' => ∃ (u : Nat), e 1 = .int .i64 n ∧ e 9 = v ∧ e 10 = .int .i64 p.length ∧ e 11 = .int .i64 i ∧ e 16 = .agg #[.int .i64 t.x, .int .i64 t.y, .int .i64 t.z] ∧ e 17 = .int .i64 u ∧ u ≤ 3 ∧ m = 3 - u ∧ (∀ k, k < u → n ≤ k → ¬ 0 < exM t k) ∧ h' = h2) ?_ 3 _ _
      ⟨0, e1, e9, e10, e11, rfl, rfl, by omega, by omega, fun k hk => by omega, rfl⟩
    rintro m e h3 ⟨u, e1, e9, e10, e11, e16, e17, hu, rfl, hk, rfl⟩
    simp (disch := omega) only [WA, ↓reduceIte, jA, jB, jD, jE, jF, jG, jH, jI, jJ, e17]
    by_cases cu : u < 3
    · have c2 : (u : Int) < 3 := by omega
      have hidx : indexV Tryz.prog 126 (.agg #[.int .i64 t.x, .int .i64 t.y, .int .i64 t.z]) (.int .i64 u) = some (.int .i64 (exM t u)) := by
        have : u = 0 ∨ u = 1 ∨ u = 2 := by omega
        rcases this with rfl | rfl | rfl
        · rfl
        · rfl
        · rfl
      by_cases cn : n ≤ u
      · have c3 : (n : Int) ≤ (u : Int) := by omega
        have d3 := decide_eq_true c3
        by_cases ce : 0 < exM t u
        · have de := decide_eq_true ce
          have hno : needB n p = false := by
            cases hb : needB n p with
            | false => rfl
            | true =>
              have := needT_iff.1 (List.all_eq_true.1 hb t (List.mem_of_getElem? ht)) u cu cn
              exact absurd ce this
          rw [hno] at hQ
          simp (disch := omega) only [WA, ↓reduceIte, jA, jB, jD, jE, jF, jG, jH, jI, jJ, c2, e16, e17, hidx, e1, c3, d3, ce, de]
          exact hQ _ s.ext
        · have de := decide_eq_false ce
          simp (disch := omega) only [WA, ↓reduceIte, jA, jB, jD, jE, jF, jG, jH, jI, jJ, c2, e16, e17, hidx, e1, c3, d3, ce, de, wrap_in]
          refine ⟨_, by omega, u + 1, e9, e10, e11, by simp, by omega, rfl, fun k h1 h2 => ?_⟩
          by_cases hku : k = u
          · rw [hku]; exact ce
          · exact hk k (by omega) h2
      · have c3 : ¬ (n : Int) ≤ (u : Int) := by omega
        have d3 := decide_eq_false c3
        simp (disch := omega) only [WA, ↓reduceIte, jA, jB, jD, jE, jF, jG, jH, jI, jJ, c2, e16, e17, hidx, e1, c3, d3, wrap_in]
        refine ⟨_, by omega, u + 1, e9, e10, e11, by simp, by omega, rfl, fun k h1 h2 => ?_⟩
        by_cases hku : k = u
        · omega
        · exact hk k (by omega) h2
    · obtain rfl : u = 3 := by omega
      have c2 : ¬ ((3 : Nat) : Int) < 3 := by decide
      simp (disch := omega) only [WA, ↓reduceIte, jA, jB, jD, jE, jF, jG, jH, jI, jJ, c2, e11, wrap_in]
      refine ⟨_, by omega, i + 1, e1, e9, e10, by simp, by omega, rfl, ?_, s.ext⟩
      rw [List.take_add_one, ht, List.all_append, hall]
      have : needT n t = true := needT_iff.2 fun u hu hn => hk u hu hn
      simp [this]
  · obtain rfl : i = p.length := by omega
    have c1 : ¬ (p.length : Int) < (p.length : Int) := by omega
    rw [List.take_length] at hall
    have hall : needB n p = true := hall
    rw [hall] at hQ
    simp (disch := omega) only [WA, ↓reduceIte, jA, jB, jD, jE, jF, jG, jH, jI, jJ, c1]
    exact hQ _ E
end Go.Proofs

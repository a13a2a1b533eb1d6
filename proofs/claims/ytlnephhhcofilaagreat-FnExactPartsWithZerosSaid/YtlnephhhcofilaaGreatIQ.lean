/- Contracts of functions, facts of types, or the plain law behind one statement (own work): IQ. Conditions: those told in each theorem. -/
import Derived.Test.YtlnephhhcofilaaGreatIP
import Derived.Test.YtlnephhhcofilaaGreatMY
set_option linter.all false
set_option linter.unusedSimpArgs false
set_option linter.unusedVariables false
set_option maxRecDepth 4000
namespace Go.Proofs
open Go Go.V
open Nat renaming reduceEqDiff → jA, reduceAdd → jB, reduceMul → jD, reduceSub → jE, reduceLeDiff → jF
open Int renaming reduceLT → jG, reduceLE → jH, reduceNeg → jI, reduceEq → jJ
theorem partF_none (t : Tm) : ∀ (l : List Iv) (i : Nat), partF t i l none = none
  | [], _ => rfl
  | _ :: l, i => partF_none t l (i + 1)
theorem valF_none (sides : List Iv) : ∀ l : List Tm, valF sides l none = none
  | [] => rfl
  | _ :: l => valF_none sides l
theorem poPower_c {t : Tm} {k : Nat} {h : Heap} {Q : Value → Heap → Prop} (hQ : ∀ h', Ext h h' → Q (.int .i64 (exM t k)) h') :
    CallsV Tryz.prog 99 [.agg #[.int .i64 t.c, .int .i64 t.x, .int .i64 t.y, .int .i64 t.z], .int .i64 k] h Q := by
  refine CallsV.start Tryz.func99 rfl (by rw [Tryz.results99]) (by kernel_rfl) (by rw [Tryz.ntmps99]; simp) ?_
  match k with
  | 0 =>
    have c1 : ((0 : Nat) : Int) = 0 := rfl
    simp (disch := omega) only [WA, ↓reduceIte, jA, jB, jD, jE, jF, jG, jH, jI, jJ, c1]
    exact hQ _ (.one _ _)
  | 1 =>
    have c1 : ¬ ((1 : Nat) : Int) = 0 := by decide
    have c2 : ((1 : Nat) : Int) = 1 := rfl
    simp (disch := omega) only [WA, ↓reduceIte, jA, jB, jD, jE, jF, jG, jH, jI, jJ, c1, c2]
    exact hQ _ (.one _ _)
  | k + 2 =>
    have c1 : ¬ ((k + 2 : Nat) : Int) = 0 := by omega
    have c2 : ¬ ((k + 2 : Nat) : Int) = 1 := by omega
    simp (disch := omega) only [WA, ↓reduceIte, jA, jB, jD, jE, jF, jG, jH, jI, jJ, c1, c2]
    exact hQ _ (.one _ _)
theorem vaOver_c {p : List Tm} {sides : List Iv} {v w : Value} {h : Heap} {Q : Value → Heap → Prop} (rp : Row h p v) (rs : Row h sides w) (hp : ∀ t ∈ p, TmG t) (hs : ∀ s ∈ sides, IvG s)
    (hQ : ∀ h', Ext h h' → Q (ivV (valM p sides)) h') :
    CallsV Tryz.prog 119 [v, w] h Q := by
  refine CallsV.start Tryz.func119 rfl (by rw [Tryz.results119]) (by kernel_rfl) (by rw [Tryz.ntmps119]; simp) ?_
  have hple := rp.le
  have hsle := rs.le
  have s := Sep.blk1 h [.int .i64 0, .int .i64 0, .int .i64 0, .int .i64 0] 122 true
  simp (disch := omega) only [WA, ↓reduceIte, jA, jB, jD, jE, jF, jG, jH, jI, jJ]
  refine .inl ⟨by kernel_rfl, ?_⟩; refine dyInt_c fun h1 E1 => ?_
  try simp (disch := omega) only [WA, ↓reduceIte, jA, jB, jD, jE, jF, jG, jH, jI, jJ]
  refine .inl ⟨by kernel_rfl, ?_⟩; refine vaPure_c fun h2 E2 => ?_
  have s := ((s.mono E1).mono E2).newBlk (ivC ⟨⟨0, 0⟩, ⟨0, 0⟩⟩) 122 true
  simp (disch := omega) only [WA, ↓reduceIte, jA, jB, jD, jE, jF, jG, jH, jI, jJ, rp.isRow.len]
  generalize hH0 : h2 ++ [some ⟨ivC ⟨⟨0, 0⟩, ⟨0, 0⟩⟩, 122, false, true⟩] = H0 at s ⊢
  refine loop_rule (fun m e h' => ∃ (i : Nat) (sv : Iv), e 0 = v ∧ e 1 = w ∧ e 4 = .pointer (some ⟨h.length, 0, none⟩) ∧ e 6 = .pointer (some ⟨h2.length, 0, none⟩) ∧ e 20 = v ∧ e 21 = .int .i64 p.length ∧ e 22 = .int .i64 i ∧
    i ≤ p.length ∧ m = p.length - i ∧ IvD sv ∧ valM p sides = valF sides (p.drop i) (some sv) ∧
    Sep h h' [blkA h2.length (ivC sv) 122, blkA h.length [.int .i64 0, .int .i64 0, .int .i64 0, .int .i64 0] 122]) ?_ p.length _ _
    ⟨0, zeroI, rfl, rfl, rfl, rfl, rfl, rfl, rfl, by omega, by omega, ⟨good0, good0⟩, rfl, s⟩
  clear s
  rintro m e h3 ⟨i, sv, e0, e1, e4, e6, e20, e21, e22, hi, rfl, hsv, hv, s⟩
  simp (disch := omega) only [WA, ↓reduceIte, jA, jB, jD, jE, jF, jG, jH, jI, jJ, e21, e22]
  by_cases c : i < p.length
  · obtain ⟨t, ht⟩ := get_some c
    have c1 : (i : Int) < (p.length : Int) := by omega
    have gt := hp t (List.mem_of_getElem? ht)
    obtain ⟨xs, x3, x4⟩ := (rp.mono s.ext).at ht
    rw [Tm.sz] at x3
    obtain ⟨rfl, -⟩ := here_Tm x4
    rw [valF_drop ht] at hv
    simp (disch := omega) only [WA, ↓reduceIte, jA, jB, jD, jE, jF, jG, jH, jI, jJ, c1, e20, e22, rp.isRow.ix, x3]
    have s := s.newBlk [.int .i64 t.c, .int .i64 t.x, .int .i64 t.y, .int .i64 t.z] 59 true
    refine .inl ⟨by kernel_rfl, ?_⟩; refine dyInt_c fun h4 E4 => ?_
    try simp (disch := omega) only [WA, ↓reduceIte, jA, jB, jD, jE, jF, jG, jH, jI, jJ]
    refine .inl ⟨by kernel_rfl, ?_⟩; refine vaPure_c fun h5 E5 => ?_
    have s := (s.mono E4).mono E5
    have s := s.newBlk (ivC ⟨⟨t.c, 0⟩, ⟨t.c, 0⟩⟩) 122 true
    simp (disch := omega) only [WA, ↓reduceIte, jA, jB, jD, jE, jF, jG, jH, jI, jJ, e1, rs.isRow.len]
    generalize hH1 : h5 ++ [some ⟨ivC ⟨⟨t.c, 0⟩, ⟨t.c, 0⟩⟩, 122, false, true⟩] = H1 at s ⊢
    refine loop_rule (fun m e h' => ∃ (j : Nat) (pv : Iv), e 0 = v ∧ e 1 = w ∧ e 4 = .pointer (some ⟨h.length, 0, none⟩) ∧ e 6 = .pointer (some ⟨h2.length, 0, none⟩) ∧ e 20 = v ∧ e 21 = .int .i64 p.length ∧ e 22 = .int .i64 i ∧
      e 8 = .pointer (some ⟨h3.length, 0, none⟩) ∧ e 9 = .pointer (some ⟨h5.length, 0, none⟩) ∧ e 30 = w ∧ e 31 = .int .i64 sides.length ∧ e 32 = .int .i64 j ∧
      j ≤ sides.length ∧ m = sides.length - j ∧ IvD pv ∧ partM t sides = partF t j (sides.drop j) (some pv) ∧
      Sep h h' [blkA h5.length (ivC pv) 122, blkA h3.length [.int .i64 t.c, .int .i64 t.x, .int .i64 t.y, .int .i64 t.z] 59, blkA h2.length (ivC sv) 122, blkA h.length [.int .i64 0, .int .i64 0, .int .i64 0, .int .i64 0] 122]) ?_ sides.length _ _
      ⟨0, oneI ⟨t.c, 0⟩, e0, e1, e4, e6, e20, e21, e22, rfl, rfl, rfl, rfl, rfl, by omega, by omega, ⟨good_int ⟨gt.c0, gt.c1⟩, good_int ⟨gt.c0, gt.c1⟩⟩, rfl, s⟩
    clear s
    rintro m e h6 ⟨j, pv, e0, e1, e4, e6, e20, e21, e22, e8, e9, e30, e31, e32, hj, rfl, hpv, hpt, s⟩
    simp (disch := omega) only [WA, ↓reduceIte, jA, jB, jD, jE, jF, jG, jH, jI, jJ, e31, e32]
    by_cases cj : j < sides.length
    · obtain ⟨sd, hsd⟩ := get_some cj
      have c2 : (j : Int) < (sides.length : Int) := by omega
      obtain ⟨ys, y3, y4⟩ := (rs.mono s.ext).at hsd
      rw [Iv.sz] at y3
      obtain rfl := here_iv y4
      have gsd := hs sd (List.mem_of_getElem? hsd)
      have hex := exM_in gt j
      have ete : ((exM t j).toNat : Int) = exM t j := by omega
      have hpS := powS_eq (n := (exM t j).toNat) gsd (by omega)
      rw [partF_drop hsd] at hpt
      simp (disch := omega) only [WA, ↓reduceIte, jA, jB, jD, jE, jF, jG, jH, jI, jJ, c2, e30, e32, rs.isRow.ix, y3]
      have s := s.newBlk (ivC sd) 122 true
      generalize hH2 : h6 ++ [some ⟨ivC sd, 122, false, true⟩] = H2 at s ⊢
      refine draw_cut (fun e' h' => e' 0 = v ∧ e' 1 = w ∧ e' 4 = .pointer (some ⟨h.length, 0, none⟩) ∧ e' 6 = .pointer (some ⟨h2.length, 0, none⟩) ∧ e' 20 = v ∧ e' 21 = .int .i64 p.length ∧ e' 22 = .int .i64 i ∧
        e' 8 = .pointer (some ⟨h3.length, 0, none⟩) ∧ e' 9 = .pointer (some ⟨h5.length, 0, none⟩) ∧ e' 30 = w ∧ e' 31 = .int .i64 sides.length ∧ e' 32 = .int .i64 j ∧ e' 13 = .bool (powI sd (exM t j).toNat).isSome ∧ ∃ pw, e' 12 = .pointer (some ⟨pw, 0, none⟩) ∧
        Sep h h' [blkA pw (ivC ((powI sd (exM t j).toNat).getD ⟨⟨0, 0⟩, ⟨0, 0⟩⟩)) 122, blkA h5.length (ivC pv) 122, blkA h3.length [.int .i64 t.c, .int .i64 t.x, .int .i64 t.y, .int .i64 t.z] 59, blkA h2.length (ivC sv) 122, blkA h.length [.int .i64 0, .int .i64 0, .int .i64 0, .int .i64 0] 122]) (fun K' hK' => ?_) ?_
      · have f1 := (s.pull 2 rfl).rdAll (n := 4) rfl
        have f2 := (s.pull 0 rfl).rdAll (n := 4) rfl
        refine draw_tail [0, 1, 2] [3, 4, 5, 6, 7, 8, 9, 10] (by kernel_rfl) (by simp only [WLF]; rfl) ?_
        simp (disch := omega) only [WA, ↓reduceIte, jA, jB, jD, jE, jF, jG, jH, jI, jJ, e8, f1, f2]
        refine tail_step [(3, [], [4, 5, 6, 7, 8, 9, 10], false), (8, [], [3, 4, 5, 6, 7, 9, 10], false)] (by kernel_rfl) (by kernel_rfl) (a_cons (by simp only [WLF]; rfl) (by kernel_rfl) ?_ (a_cons (by simp only [WLF]; rfl) (by kernel_rfl) ?_ trivial))
        · skip
          have f1 := (s.pull 2 rfl).rdAll (n := 4) rfl
          have f2 := (s.pull 0 rfl).rdAll (n := 4) rfl
          try simp (disch := omega) only [WA, ↓reduceIte, jA, jB, jD, jE, jF, jG, jH, jI, jJ, e8, f1, f2]
          refine .inl ⟨by kernel_rfl, ?_⟩; refine poPower_c (k := j) fun hh EE => ?_
          have s := s.mono EE
          have f1 := (s.pull 2 rfl).rdAll (n := 4) rfl
          have f2 := (s.pull 0 rfl).rdAll (n := 4) rfl
          try simp (disch := omega) only [WA, ↓reduceIte, jA, jB, jD, jE, jF, jG, jH, jI, jJ, e8, f1, f2]
          refine tail_step [(4, [5, 6, 7], [8, 9, 10], true), (8, [], [4, 5, 6, 7, 9, 10], false)] (by kernel_rfl) (by kernel_rfl) (a_cut (by simp only [WLF]; rfl) (by kernel_rfl) ?_ (a_cons (by simp only [WLF]; rfl) (by kernel_rfl) ?_ trivial))
          · skip
            have f1 := (s.pull 2 rfl).rdAll (n := 4) rfl
            have f2 := (s.pull 0 rfl).rdAll (n := 4) rfl
            try simp (disch := omega) only [WA, ↓reduceIte, jA, jB, jD, jE, jF, jG, jH, jI, jJ, e8, f1, f2]
            refine .inl ⟨by kernel_rfl, ?_⟩; refine (ete ▸ ivPower_c (n := (exM t j).toNat) gsd.d (by omega) fun hh EE => ?_)
            have s := s.mono EE
            rw [hpS, ivV_eq]
            have f1 := (s.pull 2 rfl).rdAll (n := 4) rfl
            have f2 := (s.pull 0 rfl).rdAll (n := 4) rfl
            try simp (disch := omega) only [WA, ↓reduceIte, jA, jB, jD, jE, jF, jG, jH, jI, jJ, e8, f1, f2]
            refine tail_step [(8, [], [9, 10], false)] (by kernel_rfl) (by kernel_rfl) (a_cons (by simp only [WLF]; rfl) (by kernel_rfl) ?_ trivial)
            have f1 := (s.pull 2 rfl).rdAll (n := 4) rfl
            have f2 := (s.pull 0 rfl).rdAll (n := 4) rfl
            try simp (disch := omega) only [WA, ↓reduceIte, jA, jB, jD, jE, jF, jG, jH, jI, jJ, e8, f1, f2]
            have s := s.newBlk [.int .i64 0, .int .i64 0, .int .i64 0, .int .i64 0] 122 true
            generalize hE8 : _ ++ [_] = hN at s ⊢
            have f1 := (s.pull 3 rfl).rdAll (n := 4) rfl
            have f2 := (s.pull 1 rfl).rdAll (n := 4) rfl
            try simp (disch := omega) only [WA, ↓reduceIte, jA, jB, jD, jE, jF, jG, jH, jI, jJ, e8, f1, f2]
            refine tail_step [(9, [10], [], false)] (by kernel_rfl) (by kernel_rfl) (a_cons (by simp only [WLF]; rfl) (by kernel_rfl) ?_ trivial)
            have f1 := (s.pull 3 rfl).rdAll (n := 4) rfl
            have f2 := (s.pull 1 rfl).rdAll (n := 4) rfl
            try simp (disch := omega) only [WA, ↓reduceIte, jA, jB, jD, jE, jF, jG, jH, jI, jJ, e8, f1, f2]
            refine sep_store (s.pull 0 rfl) (by simp) fun hh s => ?_
            have s := s.as (ds := ivC ((powI sd (exM t j).toNat).getD ⟨⟨0, 0⟩, ⟨0, 0⟩⟩)) (by simp [t_put])
            have f1 := (s.pull 3 rfl).rdAll (n := 4) rfl
            have f2 := (s.pull 1 rfl).rdAll (n := 4) rfl
            try simp (disch := omega) only [WA, ↓reduceIte, jA, jB, jD, jE, jF, jG, jH, jI, jJ, e8, f1, f2]
            exact hK' _ _ ⟨e0, e1, e4, e6, e20, e21, e22, e8, e9, e30, e31, e32, rfl, _, rfl, (((((((s.pull 5 rfl).pull 5 rfl).pull 5 rfl).pull 5 rfl).pull 5 rfl).pull 5 rfl)).swap.tail⟩
          · skip
            have f1 := (s.pull 2 rfl).rdAll (n := 4) rfl
            have f2 := (s.pull 0 rfl).rdAll (n := 4) rfl
            try simp (disch := omega) only [WA, ↓reduceIte, jA, jB, jD, jE, jF, jG, jH, jI, jJ, e8, f1, f2]
            have s := s.newBlk [.int .i64 0, .int .i64 0, .int .i64 0, .int .i64 0] 122 true
            generalize hE8 : _ ++ [_] = hN at s ⊢
            have f1 := (s.pull 3 rfl).rdAll (n := 4) rfl
            have f2 := (s.pull 1 rfl).rdAll (n := 4) rfl
            try simp (disch := omega) only [WA, ↓reduceIte, jA, jB, jD, jE, jF, jG, jH, jI, jJ, e8, f1, f2]
            refine tail_step [(4, [5, 6, 7], [9, 10], false)] (by kernel_rfl) (by kernel_rfl) (a_cons (by simp only [WLF]; rfl) (by kernel_rfl) ?_ trivial)
            have f1 := (s.pull 3 rfl).rdAll (n := 4) rfl
            have f2 := (s.pull 1 rfl).rdAll (n := 4) rfl
            try simp (disch := omega) only [WA, ↓reduceIte, jA, jB, jD, jE, jF, jG, jH, jI, jJ, e8, f1, f2]
            refine .inl ⟨by kernel_rfl, ?_⟩; refine (ete ▸ ivPower_c (n := (exM t j).toNat) gsd.d (by omega) fun hh EE => ?_)
            have s := s.mono EE
            rw [hpS, ivV_eq]
            have f1 := (s.pull 3 rfl).rdAll (n := 4) rfl
            have f2 := (s.pull 1 rfl).rdAll (n := 4) rfl
            try simp (disch := omega) only [WA, ↓reduceIte, jA, jB, jD, jE, jF, jG, jH, jI, jJ, e8, f1, f2]
            refine tail_step [(9, [10], [], false)] (by kernel_rfl) (by kernel_rfl) (a_cons (by simp only [WLF]; rfl) (by kernel_rfl) ?_ trivial)
            have f1 := (s.pull 3 rfl).rdAll (n := 4) rfl
            have f2 := (s.pull 1 rfl).rdAll (n := 4) rfl
            try simp (disch := omega) only [WA, ↓reduceIte, jA, jB, jD, jE, jF, jG, jH, jI, jJ, e8, f1, f2]
            refine sep_store (s.pull 0 rfl) (by simp) fun hh s => ?_
            have s := s.as (ds := ivC ((powI sd (exM t j).toNat).getD ⟨⟨0, 0⟩, ⟨0, 0⟩⟩)) (by simp [t_put])
            have f1 := (s.pull 3 rfl).rdAll (n := 4) rfl
            have f2 := (s.pull 1 rfl).rdAll (n := 4) rfl
            try simp (disch := omega) only [WA, ↓reduceIte, jA, jB, jD, jE, jF, jG, jH, jI, jJ, e8, f1, f2]
            exact hK' _ _ ⟨e0, e1, e4, e6, e20, e21, e22, e8, e9, e30, e31, e32, rfl, _, rfl, (((((((s.pull 5 rfl).pull 5 rfl).pull 5 rfl).pull 5 rfl).pull 5 rfl).pull 5 rfl)).swap.tail⟩
        · skip
          have f1 := (s.pull 2 rfl).rdAll (n := 4) rfl
          have f2 := (s.pull 0 rfl).rdAll (n := 4) rfl
          try simp (disch := omega) only [WA, ↓reduceIte, jA, jB, jD, jE, jF, jG, jH, jI, jJ, e8, f1, f2]
          have s := s.newBlk [.int .i64 0, .int .i64 0, .int .i64 0, .int .i64 0] 122 true
          generalize hE8 : _ ++ [_] = hN at s ⊢
          have f1 := (s.pull 3 rfl).rdAll (n := 4) rfl
          have f2 := (s.pull 1 rfl).rdAll (n := 4) rfl
          try simp (disch := omega) only [WA, ↓reduceIte, jA, jB, jD, jE, jF, jG, jH, jI, jJ, e8, f1, f2]
          refine tail_step [(3, [], [4, 5, 6, 7, 9, 10], false)] (by kernel_rfl) (by kernel_rfl) (a_cons (by simp only [WLF]; rfl) (by kernel_rfl) ?_ trivial)
          have f1 := (s.pull 3 rfl).rdAll (n := 4) rfl
          have f2 := (s.pull 1 rfl).rdAll (n := 4) rfl
          try simp (disch := omega) only [WA, ↓reduceIte, jA, jB, jD, jE, jF, jG, jH, jI, jJ, e8, f1, f2]
          refine .inl ⟨by kernel_rfl, ?_⟩; refine poPower_c (k := j) fun hh EE => ?_
          have s := s.mono EE
          have f1 := (s.pull 3 rfl).rdAll (n := 4) rfl
          have f2 := (s.pull 1 rfl).rdAll (n := 4) rfl
          try simp (disch := omega) only [WA, ↓reduceIte, jA, jB, jD, jE, jF, jG, jH, jI, jJ, e8, f1, f2]
          refine tail_step [(4, [5, 6, 7], [9, 10], false)] (by kernel_rfl) (by kernel_rfl) (a_cons (by simp only [WLF]; rfl) (by kernel_rfl) ?_ trivial)
          have f1 := (s.pull 3 rfl).rdAll (n := 4) rfl
          have f2 := (s.pull 1 rfl).rdAll (n := 4) rfl
          try simp (disch := omega) only [WA, ↓reduceIte, jA, jB, jD, jE, jF, jG, jH, jI, jJ, e8, f1, f2]
          refine .inl ⟨by kernel_rfl, ?_⟩; refine (ete ▸ ivPower_c (n := (exM t j).toNat) gsd.d (by omega) fun hh EE => ?_)
          have s := s.mono EE
          rw [hpS, ivV_eq]
          have f1 := (s.pull 3 rfl).rdAll (n := 4) rfl
          have f2 := (s.pull 1 rfl).rdAll (n := 4) rfl
          try simp (disch := omega) only [WA, ↓reduceIte, jA, jB, jD, jE, jF, jG, jH, jI, jJ, e8, f1, f2]
          refine tail_step [(9, [10], [], false)] (by kernel_rfl) (by kernel_rfl) (a_cons (by simp only [WLF]; rfl) (by kernel_rfl) ?_ trivial)
          have f1 := (s.pull 3 rfl).rdAll (n := 4) rfl
          have f2 := (s.pull 1 rfl).rdAll (n := 4) rfl
          try simp (disch := omega) only [WA, ↓reduceIte, jA, jB, jD, jE, jF, jG, jH, jI, jJ, e8, f1, f2]
          refine sep_store (s.pull 0 rfl) (by simp) fun hh s => ?_
          have s := s.as (ds := ivC ((powI sd (exM t j).toNat).getD ⟨⟨0, 0⟩, ⟨0, 0⟩⟩)) (by simp [t_put])
          have f1 := (s.pull 3 rfl).rdAll (n := 4) rfl
          have f2 := (s.pull 1 rfl).rdAll (n := 4) rfl
          try simp (disch := omega) only [WA, ↓reduceIte, jA, jB, jD, jE, jF, jG, jH, jI, jJ, e8, f1, f2]
          exact hK' _ _ ⟨e0, e1, e4, e6, e20, e21, e22, e8, e9, e30, e31, e32, rfl, _, rfl, (((((((s.pull 5 rfl).pull 5 rfl).pull 5 rfl).pull 5 rfl).pull 5 rfl).pull 5 rfl)).swap.tail⟩
      clear e0 e1 e4 e6 e20 e21 e22 e8 e9 e30 e31 e32 s
      rintro e7 h7 ⟨e0, e1, e4, e6, e20, e21, e22, e8, e9, e30, e31, e32, e13, pw, e12, s⟩
      cases hP : powI sd (exM t j).toNat with
      | none =>
        rw [hP] at e13 s
        have hno : valM p sides = none := by
          rw [hv, hpt]
          have : stepM t j sd (some pv) = none := by unfold stepM; rw [hP]; rfl
          rw [this, partF_none]
          exact valF_none _ _
        rw [hno, ivV_eq] at hQ
        simp (disch := omega) only [WA, ↓reduceIte, jA, jB, jD, jE, jF, jG, jH, jI, jJ, e13, e4, Option.isSome_none]
        refine sep_store (s.pull 4 rfl) (by simp) fun h8 s => ?_
        have s := s.as (ds := ivC ⟨⟨0, 0⟩, ⟨0, 0⟩⟩) (by simp [t_put])
        have gz := ivRd s
        simp (disch := omega) only [WA, ↓reduceIte, jA, jB, jD, jE, jF, jG, jH, jI, jJ, e4, gz]
        exact hQ _ s.ext
      | some q =>
        rw [hP] at e13 s
        simp only [Option.getD_some] at s
        have gq : IvD q := by rw [← hpS] at hP; exact (powI_good gsd (n := (exM t j).toNat) (by omega) (by rw [← hpS]; exact hP)).d
        have f1 := (s.pull 0 rfl).rdAll (n := 4) rfl
        have f2 := (s.pull 1 rfl).rdAll (n := 4) rfl
        simp (disch := omega) only [WA, ↓reduceIte, jA, jB, jD, jE, jF, jG, jH, jI, jJ, e13, e9, e12, f1, f2]
        refine .inl ⟨by kernel_rfl, ?_⟩; refine ivMul_c hpv gq fun h8 E8 => ?_
        have s := s.mono E8
        rw [ivV_eq]
        cases hM : mulI pv q with
        | none =>
          have hno : valM p sides = none := by
            rw [hv, hpt]
            have : stepM t j sd (some pv) = none := by unfold stepM; rw [hP]; exact hM
            rw [this, partF_none]
            exact valF_none _ _
          rw [hno, ivV_eq] at hQ
          have s := s.newBlk (ivC ⟨⟨0, 0⟩, ⟨0, 0⟩⟩) 122 true
          simp (disch := omega) only [WA, ↓reduceIte, jA, jB, jD, jE, jF, jG, jH, jI, jJ, e4, Option.isSome_none, Option.getD_none]
          refine sep_store (s.pull 5 rfl) (by simp) fun h8 s => ?_
          have s := s.as (ds := ivC ⟨⟨0, 0⟩, ⟨0, 0⟩⟩) (by simp [t_put])
          have gz := ivRd s
          simp (disch := omega) only [WA, ↓reduceIte, jA, jB, jD, jE, jF, jG, jH, jI, jJ, e4, gz]
          exact hQ _ s.ext
        | some r =>
          have hst : stepM t j sd (some pv) = some r := by unfold stepM; rw [hP]; exact hM
          rw [hst] at hpt
          have s := s.newBlk (ivC r) 122 true
          have gz := ivRd s
          simp (disch := omega) only [WA, ↓reduceIte, jA, jB, jD, jE, jF, jG, jH, jI, jJ, e9, gz]
          refine sep_store (s.pull 2 rfl) (by simp) fun h9 s => ?_
          have s := s.as (ds := ivC r) (by simp [t_put])
          simp (disch := omega) only [WA, ↓reduceIte, jA, jB, jD, jE, jF, jG, jH, jI, jJ, e32, wrap_in]
          exact ⟨_, by omega, j + 1, r, e0, e1, e4, e6, e20, e21, e22, e8, e9, e30, e31, by simp, by omega, rfl, (mulI_good hM).d, hpt, s.swap.tail.swap.tail⟩
    · obtain rfl : j = sides.length := by omega
      have c2 : ¬ (sides.length : Int) < (sides.length : Int) := by omega
      rw [List.drop_length] at hpt
      have hpt : partM t sides = some pv := hpt
      have f1 := (s.pull 0 rfl).rdAll (n := 4) rfl
      have f2 := (s.pull 2 rfl).rdAll (n := 4) rfl
      simp (disch := omega) only [WA, ↓reduceIte, jA, jB, jD, jE, jF, jG, jH, jI, jJ, c2, e6, e9, f1, f2]
      refine .inl ⟨by kernel_rfl, ?_⟩; refine ivAdd_c hsv hpv fun h7 E7 => ?_
      have s := s.mono E7
      rw [ivV_eq]
      cases hA : addI sv pv with
      | none =>
        have hno : valM p sides = none := by
          rw [hv, hpt]
          have : addO (some sv) (some pv) = none := hA
          rw [this]
          exact valF_none _ _
        rw [hno, ivV_eq] at hQ
        have s := s.newBlk (ivC ⟨⟨0, 0⟩, ⟨0, 0⟩⟩) 122 true
        simp (disch := omega) only [WA, ↓reduceIte, jA, jB, jD, jE, jF, jG, jH, jI, jJ, e4, Option.isSome_none, Option.getD_none]
        refine sep_store (s.pull 4 rfl) (by simp) fun h8 s => ?_
        have s := s.as (ds := ivC ⟨⟨0, 0⟩, ⟨0, 0⟩⟩) (by simp [t_put])
        have gz := ivRd s
        simp (disch := omega) only [WA, ↓reduceIte, jA, jB, jD, jE, jF, jG, jH, jI, jJ, e4, gz]
        exact hQ _ s.ext
      | some r =>
        have gr : IvD r := by
          unfold addI at hA
          split at hA
          · rename_i x y h1 h2
            cases hA
            exact ⟨makeM_good h1, makeM_good h2⟩
          · cases hA
        have hst : addO (some sv) (some pv) = some r := hA
        rw [hpt, hst] at hv
        have s := s.newBlk (ivC r) 122 true
        have gz := ivRd s
        simp (disch := omega) only [WA, ↓reduceIte, jA, jB, jD, jE, jF, jG, jH, jI, jJ, e6, gz]
        refine sep_store (s.pull 3 rfl) (by simp) fun h9 s => ?_
        have s := s.as (ds := ivC r) (by simp [t_put])
        simp (disch := omega) only [WA, ↓reduceIte, jA, jB, jD, jE, jF, jG, jH, jI, jJ, e22, wrap_in]
        exact ⟨_, by omega, i + 1, r, e0, e1, e4, e6, e20, e21, by simp, by omega, rfl, gr, hv, s.swap.tail.swap.tail.swap.tail⟩
  · obtain rfl : i = p.length := by omega
    have c1 : ¬ (p.length : Int) < (p.length : Int) := by omega
    rw [List.drop_length] at hv
    have hv : valM p sides = some sv := hv
    have f1 := (s.pull 0 rfl).rdAll (n := 4) rfl
    simp (disch := omega) only [WA, ↓reduceIte, jA, jB, jD, jE, jF, jG, jH, jI, jJ, c1, e4, e6, f1]
    refine sep_store (s.pull 1 rfl) (by simp) fun h6 s => ?_
    have s := s.as (ds := ivC sv) (by simp [t_put])
    have gz := ivRd s
    rw [hv, ivV_eq] at hQ
    simp (disch := omega) only [WA, ↓reduceIte, jA, jB, jD, jE, jF, jG, jH, jI, jJ, e4, gz]
    exact hQ _ s.ext
end Go.Proofs

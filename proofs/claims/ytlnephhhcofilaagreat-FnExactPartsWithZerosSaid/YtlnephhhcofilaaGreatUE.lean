/- Contracts of functions, facts of types, or the plain law behind one statement (own work): UE. Conditions: those told in each theorem. -/
import Derived.Test.YtlnephhhcofilaaGreatMH
set_option linter.all false
set_option linter.unusedSimpArgs false
set_option linter.unusedVariables false
set_option maxRecDepth 4000
namespace Go.Proofs
open Go Go.V
open Nat renaming reduceEqDiff → jA, reduceAdd → jB, reduceMul → jD, reduceSub → jE, reduceLeDiff → jF
open Int renaming reduceLT → jG, reduceLE → jH, reduceNeg → jI, reduceEq → jJ
theorem find_some {f : Nat → Bool} {r n : Nat} (hr : r < n) (hb : f r = true) (hno : ∀ j < r, f j = false) : (List.range n).find? f = some r := by
  rw [List.find?_range_eq_some]
  exact ⟨hb, by simp [hr], fun j hj => by rw [hno j hj]; rfl⟩
theorem find_none {f : Nat → Bool} {n : Nat} (hno : ∀ j < n, f j = false) : (List.range n).find? f = none := by
  rw [List.find?_eq_none]
  intro j hj
  rw [List.mem_range] at hj
  rw [hno j hj]
  decide
def reasI (S : List (List Tm)) (e : Ed) : Int := match reasM S (sidesM e) with | some r => (r : Int) | none => -1
theorem edgeReason_c {S : List (List Tm)} {e : Ed} {v : Value} {h : Heap} {Q : Value → Heap → Prop} (rS : Row h S v) (hS : twoB S = true) (he : EdG e)
    (hQ : ∀ h', Ext h h' → Q (.int .i64 (reasI S e)) h') : CallsV Tryz.prog 95 [v, .agg (edC e).toArray] h Q := by
  refine CallsV.start Tryz.func95 rfl (by rw [Tryz.results95]) (by kernel_rfl) (by rw [Tryz.ntmps95]; simp) ?_
  have s := Sep.blk1 h (edC e) 102 true
  simp (disch := omega) only [WA, ↓reduceIte, jA, jB, jD, jE, jF, jG, jH, jI, jJ]
  generalize h ++ [some ⟨edC e, 102, false, true⟩] = H0 at s ⊢
  refine loop_rule (fun m e' h' => ∃ (r : Nat), e' 0 = v ∧ e' 3 = .pointer (some ⟨h.length, 0, none⟩) ∧ e' 6 = .int .i64 r ∧ r ≤ 4 ∧ m = 4 - r ∧ (∀ j < r, holdM S (sidesM e) j = false) ∧ Sep h h' [blkA h.length (edC e) 102]) ?_ 4 _ _ ⟨0, rfl, rfl, rfl, by omega, by omega, by omega, s⟩
  clear s
  rintro m e' h3 ⟨r, e0, e3, e6, hr, rfl, hno, s⟩
  by_cases c : r < 4
  · have c1 : (r : Int) < 4 := by omega
    have ga := s.rdAll (n := 7) rfl
    simp (disch := omega) only [WA, ↓reduceIte, jA, jB, jD, jE, jF, jG, jH, jI, jJ, e0, e3, e6, c1, ga]
    refine .inl ⟨by kernel_rfl, ?_⟩; refine edgeHolds_c (rS.mono s.ext) hS he c fun h4 E4 => ?_
    have s := s.mono E4
    cases hb : holdM S (sidesM e) r with
    | true =>
      have hf : reasM S (sidesM e) = some r := find_some c hb hno
      have hi : reasI S e = (r : Int) := by unfold reasI; rw [hf]
      rw [hi] at hQ
      simp (disch := omega) only [WA, ↓reduceIte, jA, jB, jD, jE, jF, jG, jH, jI, jJ, e6]
      exact hQ _ s.ext
    | false =>
      simp (disch := omega) only [WA, ↓reduceIte, jA, jB, jD, jE, jF, jG, jH, jI, jJ, e6, wrap_in]
      refine ⟨_, by omega, r + 1, e0, e3, by simp, by omega, rfl, fun j hj => ?_, s⟩
      by_cases ej : j = r
      · rw [ej]; exact hb
      · exact hno j (by omega)
  · obtain rfl : r = 4 := by omega
    have e6 : e' 6 = .int .i64 4 := e6
    have hf : reasM S (sidesM e) = none := find_none hno
    have hi : reasI S e = -1 := by unfold reasI; rw [hf]
    rw [hi] at hQ
    simp (disch := omega) only [WA, ↓reduceIte, jA, jB, jD, jE, jF, jG, jH, jI, jJ, e6]
    exact hQ _ s.ext
theorem boundaryReasons_c {S : List (List Tm)} {b : Bx} {v : Value} {bb off : Nat} {k d : Nat} {x y z w : Int} {h : Heap} {Q : Value → Heap → Prop} (rS : Row h S v) (hS : twoB S = true) (hbb : bb < h.length) (hp : At h bb off b) (g : PlG b k x y z w) (hd : d ≤ 5)
    (hQ : ∀ v h', Sep h h' [ownA 3 ((allM S (edgesM x y z w k d)).getD []) v] → Q (.tuple #[v, .bool (allM S (edgesM x y z w k d)).isSome]) h') : CallsV Tryz.prog 78 [v, .pointer (some ⟨bb, off, none⟩), .int .i64 d] h Q := by
  refine CallsV.start Tryz.func78 rfl (by rw [Tryz.results78]) (by kernel_rfl) (by rw [Tryz.ntmps78]; simp) ?_
  simp (disch := omega) only [WA, ↓reduceIte, jA, jB, jD, jE, jF, jG, jH, jI, jJ]
  refine .inl ⟨by kernel_rfl, ?_⟩; refine boundaryEdges_c hbb hp g hd fun vE h1 s => ?_
  have rE := (s.pull 0 rfl).row
  have hEl := edgesM_len x y z w k d
  obtain ⟨N, eN, eN', hN1, hN2⟩ := pow_d hd
  rw [eN'] at hEl
  simp (disch := omega) only [WA, ↓reduceIte, jA, jB, jD, jE, jF, jG, jH, jI, jJ, rE.isRow.len]
  have s := s.nilA (α := Int) 3
  generalize hE : edgesM x y z w k d = E at *
  have hEg : ∀ e ∈ E, EdG e := by rw [← hE]; exact edgesM_good
  refine loop_rule (fun m e h' => ∃ (i : Nat) (vo : Value), e 0 = v ∧ e 8 = vo ∧ e 14 = vE ∧ e 15 = .int .i64 E.length ∧ e 16 = .int .i64 i ∧ i ≤ E.length ∧ m = E.length - i ∧ (preM S (E.take i)).length = i ∧ Sep h h' [ownA 3 (preM S (E.take i)) vo, ownA 102 E vE]) ?_ E.length _ _
    ⟨0, _, rfl, rfl, rfl, rfl, rfl, by omega, by omega, by simp [preM], s⟩
  clear s rE
  rintro m e h3 ⟨i, vo, e0, e8, e14, e15, e16, hi, rfl, hpl, s⟩
  have rE := (s.pull 1 rfl).row
  simp (disch := omega) only [WA, ↓reduceIte, jA, jB, jD, jE, jF, jG, jH, jI, jJ, e15, e16]
  by_cases c : i < E.length
  · have c1 : (i : Int) < (E.length : Int) := by omega
    obtain ⟨ed, hed⟩ := get_some c
    obtain ⟨xs, X1, X2⟩ := rE.at hed
    have gE := hEg ed (List.mem_of_getElem? hed)
    obtain ⟨rfl, _⟩ := here_Ed X2
    have X1 : cellsAt h3 (rowB vE) (rowO vE + i * 7) 7 = some (edC ed) := X1
    have s := s.newBlk (edC ed) 102 true
    have gg := s.rdAll (n := 7) rfl
    simp (disch := omega) only [WA, ↓reduceIte, jA, jB, jD, jE, jF, jG, jH, jI, jJ, c1, e14, e16, rE.isRow.ix, X1, e0, gg]
    refine .inl ⟨by kernel_rfl, ?_⟩; refine edgeReason_c (rS.mono s.ext) hS gE fun h5 E5 => ?_
    have s := s.mono E5
    cases hr : reasM S (sidesM ed) with
    | none =>
      obtain ⟨p1, p2⟩ := preM_none hpl hed hr
      have hri : reasI S ed = -1 := by unfold reasI; rw [hr]
      rw [p2] at hQ
      simp (disch := omega) only [WA, ↓reduceIte, jA, jB, jD, jE, jF, jG, jH, jI, jJ, hri]
      exact hQ _ _ (Sep.nilA (Sep.nil s.ext) _)
    | some r =>
      obtain ⟨p1, p2⟩ := preM_some hpl hed hr
      have hr4 : r < 4 := by unfold reasM at hr; exact List.mem_range.1 (List.mem_of_find?_eq_some hr)
      have hri : reasI S ed = (r : Int) := by unfold reasI; rw [hr]
      have hr0 : ¬ (r : Int) < 0 := by omega
      simp (disch := omega) only [WA, ↓reduceIte, jA, jB, jD, jE, jF, jG, jH, jI, jJ, e8, hri, hr0]
      have s := ((s.pull 1 rfl).rep0 (x := (r : Int)) (rep_int ⟨by omega, by omega⟩)).swap
      refine sep_append (y := (r : Int)) s rfl rfl te23 tk3 rfl (by decide) (by rw [hpl]; simp only []; omega) fun w5 h6 s => ?_
      simp (disch := omega) only [WA, ↓reduceIte, jA, jB, jD, jE, jF, jG, jH, jI, jJ, e16, wrap_in]
      refine ⟨_, by omega, i + 1, w5, e0, rfl, e14, e15, by simp, by omega, rfl, p2, ?_⟩
      rw [p1]
      exact s.swap.tail
  · obtain rfl : i = E.length := by omega
    have c1 : ¬ (E.length : Int) < (E.length : Int) := by omega
    rw [List.take_length] at s hpl
    have ha : allM S E = some (preM S E) := by unfold allM; rw [if_pos hpl]
    rw [ha] at hQ
    have pl := s.row.isRow.plain
    simp (disch := omega) only [WA, ↓reduceIte, jA, jB, jD, jE, jF, jG, jH, jI, jJ, c1, e8, pl]
    exact hQ _ _ s.head
theorem leastDepth_c {S : List (List Tm)} {b : Bx} {v : Value} {bb off : Nat} {k : Nat} {x y z w : Int} {h : Heap} {Q : Value → Heap → Prop} (rS : Row h S v) (hS : twoB S = true) (hbb : bb < h.length) (hp : At h bb off b) (g : PlG b k x y z w)
    (hQ : ∀ h', Ext h h' → Q (.tuple #[.int .i64 ((leastM S x y z w k).getD 0 : Nat), .bool (leastM S x y z w k).isSome]) h') : CallsV Tryz.prog 58 [v, .pointer (some ⟨bb, off, none⟩)] h Q := by
  refine CallsV.start Tryz.func58 rfl (by rw [Tryz.results58]) (by kernel_rfl) (by rw [Tryz.ntmps58]; simp) ?_
  simp (disch := omega) only [WA, ↓reduceIte, jA, jB, jD, jE, jF, jG, jH, jI, jJ]
  refine loop_rule (fun m e h' => ∃ (d : Nat), e 0 = v ∧ e 1 = .pointer (some ⟨bb, off, none⟩) ∧ e 9 = .int .i64 d ∧ d ≤ 6 ∧ m = 6 - d ∧ (∀ j < d, allM S (edgesM x y z w k j) = none) ∧ Ext h h') ?_ 6 _ _
    ⟨0, rfl, rfl, rfl, by omega, rfl, by omega, .refl _⟩
  rintro m e h3 ⟨d, e0, e1, e9, hd, rfl, hno, E⟩
  by_cases c : d < 6
  · have c1 : (d : Int) < 6 := by omega
    simp (disch := omega) only [WA, ↓reduceIte, jA, jB, jD, jE, jF, jG, jH, jI, jJ, e0, e1, e9, c1]
    refine .inl ⟨by kernel_rfl, ?_⟩; refine boundaryReasons_c (rS.mono E) hS (Nat.lt_of_lt_of_le hbb E.le) (hp.mono hbb E) g (by omega) fun vo h4 t4 => ?_
    have E2 := E.trans t4.ext
    cases ha : allM S (edgesM x y z w k d) with
    | none =>
      simp (disch := omega) only [WA, ↓reduceIte, jA, jB, jD, jE, jF, jG, jH, jI, jJ, e9, wrap_in, Option.isSome_none]
      refine ⟨_, by omega, d + 1, e0, e1, by simp, by omega, rfl, fun j hj => ?_, E2⟩
      by_cases ej : j = d
      · rw [ej]; exact ha
      · exact hno j (by omega)
    | some l =>
      obtain ⟨p1, _⟩ := least_some c hno ha
      rw [p1] at hQ
      simp (disch := omega) only [WA, ↓reduceIte, jA, jB, jD, jE, jF, jG, jH, jI, jJ, Option.isSome_some]
      exact hQ _ E2
  · obtain rfl : d = 6 := by omega
    have e9 : e 9 = .int .i64 6 := e9
    obtain ⟨p1, _⟩ := least_none hno
    rw [p1] at hQ
    simp (disch := omega) only [WA, ↓reduceIte, jA, jB, jD, jE, jF, jG, jH, jI, jJ, e9]
    exact hQ _ E
theorem turnsOf_c {l : List Int} {v : Value} {h : Heap} {Q : Value → Heap → Prop} (r : Row h l v) (hr : RsG l) (h128 : l.length ≤ 128) (hQ : Q (.tuple #[.int .i64 (turnsM l).1, .bool (turnsM l).2]) h) : CallsV Tryz.prog 79 [v] h Q := by
  refine CallsV.start Tryz.func79 rfl (by rw [Tryz.results79]) (by kernel_rfl) (by rw [Tryz.ntmps79]; simp) ?_
  simp (disch := omega) only [WA, ↓reduceIte, jA, jB, jD, jE, jF, jG, jH, jI, jJ, r.isRow.len]
  refine loop_rule (fun m e h' => ∃ (i : Nat), e 0 = v ∧ e 7 = v ∧ e 8 = .int .i64 l.length ∧ e 9 = .int .i64 i ∧ e 4 = .int .i64 (sumT l i) ∧ i ≤ l.length ∧ m = l.length - i ∧ (∀ j < i, stepT l j ≠ 2) ∧ h' = h) ?_ l.length _ _
    ⟨0, rfl, rfl, rfl, rfl, rfl, by omega, by omega, by omega, rfl⟩
  rintro m e h3 ⟨i, e0, e7, e8, e9, e4, hi, rfl, hno, rfl⟩
  simp (disch := omega) only [WA, ↓reduceIte, jA, jB, jD, jE, jF, jG, jH, jI, jJ, e8, e9]
  by_cases c : i < l.length
  · have c1 : (i : Int) < (l.length : Int) := by omega
    obtain ⟨g1, g2, g3⟩ := getD_in hr c
    obtain ⟨g4, g5, g6⟩ := getD_in hr (Nat.mod_lt (i + 1) (show l.length > 0 by omega))
    obtain ⟨e1, e2, e3⟩ := stepT_in hr c
    have X1 := (row_int r g1).1
    have X2 := (row_int r g4).1
    have w1 := wrap_in ((i : Int) + 1) (by omega)
    have n0 : ¬ (l.length : Int) = 0 := by omega
    have tm : Int.tmod ((i : Int) + 1) (l.length : Int) = (((i + 1) % l.length : Nat) : Int) := by rw [Int.tmod_eq_emod_of_nonneg (by omega)]; norm_cast
    have hm := Nat.mod_lt (i + 1) (show l.length > 0 by omega)
    have q2 : (((i + 1) % l.length : Nat) : Int) < (l.length : Int) := by omega
    have w2 := wrap_in (l.getD ((i + 1) % l.length) 0 - l.getD i 0) (by omega)
    have w3 := wrap_in (l.getD ((i + 1) % l.length) 0 - l.getD i 0 + 4) (by omega)
    have est : Int.tmod (l.getD ((i + 1) % l.length) 0 - l.getD i 0 + 4) 4 = stepT l i := rfl
    have hsum := sumT_in l i
    have esum : sumT l (i + 1) = sumT l i + dT (stepT l i) := rfl
    generalize hq : (i + 1) % l.length = q at *
    simp (disch := omega) only [WA, ↓reduceIte, jA, jB, jD, jE, jF, jG, jH, jI, jJ, c1, e0, e7, e8, e9, r.isRow.ix, X1, r.isRow.len, w1, n0, tm, q2, X2, w2, w3, est]
    have : stepT l i = 0 ∨ stepT l i = 1 ∨ stepT l i = 2 ∨ stepT l i = 3 := by omega
    have nxt : stepT l i ≠ 2 → ∀ j < i + 1, stepT l j ≠ 2 := fun hne j hj => by
      by_cases e : j = i
      · rw [e]; exact hne
      · exact hno j (by omega)
    rcases this with h0 | h0 | h0 | h0
    · simp (disch := omega) only [WA, ↓reduceIte, jA, jB, jD, jE, jF, jG, jH, jI, jJ, h0, e9, w1]
      refine ⟨_, by omega, i + 1, e0, e7, e8, by simp, ?_, by omega, rfl, nxt (by omega)⟩
      rw [esum, h0]
      show e 4 = .int .i64 (sumT l i + 0)
      rw [Int.add_zero]; exact e4
    · have w5 := wrap_in (sumT l i + 1) (by omega)
      simp (disch := omega) only [WA, ↓reduceIte, jA, jB, jD, jE, jF, jG, jH, jI, jJ, h0, e4, e9, w1, w5]
      refine ⟨_, by omega, i + 1, e0, e7, e8, by simp, ?_, by omega, rfl, nxt (by omega)⟩
      rw [esum, h0]; rfl
    · have hno2 : ¬ okT l := fun ho => ho i c h0
      unfold turnsM at hQ
      rw [if_neg hno2] at hQ
      simp (disch := omega) only [WA, ↓reduceIte, jA, jB, jD, jE, jF, jG, jH, jI, jJ, h0]
      exact hQ
    · have w5 := wrap_in (sumT l i - 1) (by omega)
      simp (disch := omega) only [WA, ↓reduceIte, jA, jB, jD, jE, jF, jG, jH, jI, jJ, h0, e4, e9, w1, w5]
      refine ⟨_, by omega, i + 1, e0, e7, e8, by simp, ?_, by omega, rfl, nxt (by omega)⟩
      rw [esum, h0]; rfl
  · obtain rfl : i = l.length := by omega
    have c1 : ¬ (l.length : Int) < (l.length : Int) := by omega
    have h4 := sumT_four hr hno
    have t4 : Int.tmod (sumT l l.length) 4 = 0 := Int.tmod_eq_zero_of_dvd (Int.dvd_of_emod_eq_zero h4)
    have hsum := sumT_in l l.length
    have hb : -128 ≤ Int.tdiv (sumT l l.length) 4 ∧ Int.tdiv (sumT l l.length) 4 ≤ 128 := by
      have := Int.natAbs_tdiv_le_natAbs (sumT l l.length) 4
      omega
    have w6 := wrap_in (Int.tdiv (sumT l l.length) 4) (by omega)
    unfold turnsM at hQ
    have hok : okT l := hno
    rw [if_pos hok] at hQ
    simp (disch := omega) only [WA, ↓reduceIte, jA, jB, jD, jE, jF, jG, jH, jI, jJ, c1, e4, t4, w6]
    exact hQ
theorem windingOf_c {S : List (List Tm)} {b : Bx} {v : Value} {bb off : Nat} {k d : Nat} {x y z w : Int} {l : List Int} {h : Heap} {Q : Value → Heap → Prop} (rS : Row h S v) (hS : twoB S = true) (hbb : bb < h.length) (hp : At h bb off b) (g : PlG b k x y z w) (hd : d ≤ 5)
    (hl : allM S (edgesM x y z w k d) = some l) (hQ : ∀ h', Ext h h' → Q (.tuple #[.int .i64 (turnsM l).1, .bool (turnsM l).2]) h') : CallsV Tryz.prog 59 [v, .pointer (some ⟨bb, off, none⟩), .int .i64 d] h Q := by
  refine CallsV.start Tryz.func59 rfl (by rw [Tryz.results59]) (by kernel_rfl) (by rw [Tryz.ntmps59]; simp) ?_
  simp (disch := omega) only [WA, ↓reduceIte, jA, jB, jD, jE, jF, jG, jH, jI, jJ]
  refine .inl ⟨by kernel_rfl, ?_⟩; refine boundaryReasons_c rS hS hbb hp g hd fun vo h1 s => ?_
  rw [hl] at s ⊢
  obtain ⟨hr, hll⟩ := allM_in hl
  have := edges_128 (x := x) (y := y) (z := z) (w := w) (k := k) (d := d) hd
  have rl := (s.pull 0 rfl).row
  simp (disch := omega) only [WA, ↓reduceIte, jA, jB, jD, jE, jF, jG, jH, jI, jJ, Option.isSome_some]
  refine .inl ⟨by kernel_rfl, ?_⟩; refine turnsOf_c rl hr (by rw [Option.getD_some]; omega) ?_
  simp (disch := omega) only [WA, ↓reduceIte, jA, jB, jD, jE, jF, jG, jH, jI, jJ]
  exact hQ _ s.ext
theorem degreeOver_c {S : List (List Tm)} {b : Bx} {v : Value} {bb off : Nat} {h : Heap} {Q : Value → Heap → Prop} (rS : Row h S v) (hS : twoB S = true) (hb : planeB b = true) (hbb : bb < h.length) (hp : At h bb off b)
    (hQ : ∀ h', Ext h h' → Q (.tuple #[.int .i64 (boxDeg S b).1, .bool (boxDeg S b).2]) h') : CallsV Tryz.prog 37 [v, .pointer (some ⟨bb, off, none⟩)] h Q := by
  obtain ⟨k, x, y, z, w, g⟩ := planeB_G hb
  rw [boxDeg_G hS hb g] at hQ
  refine CallsV.start Tryz.func37 rfl (by rw [Tryz.results37]) (by kernel_rfl) (by rw [Tryz.ntmps37]; simp) ?_
  simp (disch := omega) only [WA, ↓reduceIte, jA, jB, jD, jE, jF, jG, jH, jI, jJ]
  refine .inl ⟨by kernel_rfl, ?_⟩; refine leastDepth_c rS hS hbb hp g fun h1 E1 => ?_
  cases hl : leastM S x y z w k with
  | none =>
    have e : degM' S x y z w k = (0, false) := by unfold degM'; rw [hl]
    rw [e] at hQ
    simp (disch := omega) only [WA, ↓reduceIte, jA, jB, jD, jE, jF, jG, jH, jI, jJ, Option.isSome_none]
    exact hQ _ E1
  | some d =>
    have hd : d < 6 := by unfold leastM at hl; exact List.mem_range.1 (List.mem_of_find?_eq_some hl)
    have ha : (allM S (edgesM x y z w k d)).isSome = true := by unfold leastM at hl; exact List.find?_some (p := fun d => (allM S (edgesM x y z w k d)).isSome) hl
    obtain ⟨l, hal⟩ := Option.isSome_iff_exists.1 ha
    have e : degM' S x y z w k = turnsM l := by
      unfold degM'
      rw [hl]
      simp only [hal, Option.getD_some]
    rw [e] at hQ
    simp (disch := omega) only [WA, ↓reduceIte, jA, jB, jD, jE, jF, jG, jH, jI, jJ, Option.isSome_some, Option.getD_some]
    refine .inl ⟨by kernel_rfl, ?_⟩; refine windingOf_c (rS.mono E1) hS (Nat.lt_of_lt_of_le hbb E1.le) (hp.mono hbb E1) g (by omega) hal fun h2 E2 => ?_
    simp (disch := omega) only [WA, ↓reduceIte, jA, jB, jD, jE, jF, jG, jH, jI, jJ]
    exact hQ _ (E1.trans E2)
end Go.Proofs

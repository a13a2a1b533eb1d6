/- Contracts of functions, facts of types, or the plain law behind one statement (own work): IP. Conditions: those told in each theorem. -/
import Derived.Test.YtlnephhhcofilaaGreatIO
set_option linter.all false
set_option linter.unusedSimpArgs false
set_option linter.unusedVariables false
set_option maxRecDepth 4000
namespace Go.Proofs
open Go Go.V
open Nat renaming reduceEqDiff → jA, reduceAdd → jB, reduceMul → jD, reduceSub → jE, reduceLeDiff → jF
open Int renaming reduceLT → jG, reduceLE → jH, reduceNeg → jI, reduceEq → jJ
def prodL (i k : Iv) : List (Option Dy) := [mulM i.low k.low, mulM i.low k.high, mulM i.high k.low, mulM i.high k.high]
theorem prodL_at {i k : Iv} {a b : Nat} {x y : Dy} (hx : [i.low, i.high][a]? = some x) (hy : [k.low, k.high][b]? = some y) : (prodL i k)[2 * a + b]? = some (mulM x y) := by
  match a, b with
  | 0, 0 => cases hx; cases hy; rfl
  | 0, 1 => cases hx; cases hy; rfl
  | 1, 0 => cases hx; cases hy; rfl
  | 1, 1 => cases hx; cases hy; rfl
  | a + 2, _ => simp at hx
  | 0, b + 2 => simp at hy
  | 1, b + 2 => simp at hy
theorem mulI_none {i k : Iv} {t : Nat} (h : (prodL i k)[t]? = some none) : mulI i k = none := by
  unfold prodL at h
  unfold mulI
  match t with
  | 0 => simp at h; rw [h]
  | 1 => simp at h; rw [h]; cases mulM i.low k.low <;> rfl
  | 2 => simp at h; rw [h]; cases mulM i.low k.low <;> cases mulM i.low k.high <;> rfl
  | 3 => simp at h; rw [h]; cases mulM i.low k.low <;> cases mulM i.low k.high <;> cases mulM i.high k.low <;> rfl
  | t + 4 => simp at h
theorem mulI_all {i k : Iv} {l : List Dy} (h : l.map some = prodL i k) : mulI i k = some (rdI (endsM l)) ∧ (∀ z ∈ l, DyG z) ∧ l ≠ [] := by
  unfold prodL at h
  match l with
  | [a, b, c, d] =>
    simp only [List.map_cons, List.map_nil, List.cons.injEq, and_true] at h
    obtain ⟨h1, h2, h3, h4⟩ := h
    have ga := mulM_good h1.symm
    have gb := mulM_good h2.symm
    have gc := mulM_good h3.symm
    have gd := mulM_good h4.symm
    refine ⟨?_, ?_, by simp⟩
    · unfold mulI
      rw [← h1, ← h2, ← h3, ← h4]
      simp only []
      rw [ends4 ga gb gc gd]
    · intro z hz
      simp only [List.mem_cons, List.not_mem_nil, or_false] at hz
      rcases hz with rfl | rfl | rfl | rfl <;> assumption
  | [] => simp at h
  | [_] => simp at h
  | [_, _] => simp at h
  | [_, _, _] => simp at h
  | _ :: _ :: _ :: _ :: _ :: _ => simp at h
theorem ivMul_c {i k : Iv} {h : Heap} {Q : Value → Heap → Prop} (hi : IvD i) (hk : IvD k) (hQ : ∀ h', Ext h h' → Q (ivV (mulI i k)) h') :
    CallsV Tryz.prog 134 [.agg (ivC i).toArray, .agg (ivC k).toArray] h Q := by
  refine CallsV.start Tryz.func134 rfl (by rw [Tryz.results134]) (by kernel_rfl) (by rw [Tryz.ntmps134]; simp) ?_
  have s := Sep.blk3 h (ivC i) (ivC k) [.int .i64 0, .int .i64 0, .int .i64 0, .int .i64 0] 122 122 122 true true true
  have gi := ivRd (s.pull 2 rfl)
  have s := s.newBlk [.int .i64 i.low.n, .int .i64 i.low.k, .int .i64 i.high.n, .int .i64 i.high.k] 97 true
  simp only [List.append_assoc, List.cons_append, List.nil_append, List.length_append, List.length_cons, List.length_nil, Nat.reduceAdd] at s
  simp (disch := omega) only [WA, ↓reduceIte, jA, jB, jD, jE, jF, jG, jH, jI, jJ, gi]
  generalize h ++ [some ⟨ivC i, 122, false, true⟩, some ⟨ivC k, 122, false, true⟩, some ⟨[.int .i64 0, .int .i64 0, .int .i64 0, .int .i64 0], 122, false, true⟩, some ⟨[.int .i64 i.low.n, .int .i64 i.low.k, .int .i64 i.high.n, .int .i64 i.high.k], 97, false, true⟩] = H0 at s ⊢
  have s := Sep.blkRow (l := [i.low, i.high]) (n := 2) s (cells2 hi.low hi.high _) rfl (by decide)
  have s := s.nilA (α := Dy) 97
  refine loop_rule (fun m e h' => ∃ (a : Nat) (l : List Dy) (vl : Value), e 2 = .pointer (some ⟨h.length, 0, none⟩) ∧ e 3 = .pointer (some ⟨h.length + 1, 0, none⟩) ∧ e 4 = .pointer (some ⟨h.length + 2, 0, none⟩) ∧ e 6 = vl ∧ e 17 = .slice (some ⟨h.length + 3, 0, none⟩) 2 2 ∧ e 18 = .int .i64 2 ∧ e 19 = .int .i64 a ∧
    a ≤ 2 ∧ m = 2 - a ∧ l.map some = (prodL i k).take (2 * a) ∧
    Sep h h' [ownA 97 l vl, repA [i.low, i.high] [.slice (some ⟨h.length + 3, 0, none⟩) 2 2], blkA (h.length + 2) [.int .i64 0, .int .i64 0, .int .i64 0, .int .i64 0] 122, blkA (h.length + 1) (ivC k) 122, blkA h.length (ivC i) 122]) ?_ 2 _ _
    ⟨0, [], _, rfl, rfl, rfl, rfl, rfl, rfl, rfl, by omega, by omega, rfl, s⟩
  clear s gi
  rintro m e h1 ⟨a, l, vl, e2, e3, e4, e6, e17, e18, e19, ha, rfl, hl, s⟩
  simp (disch := omega) only [WA, ↓reduceIte, jA, jB, jD, jE, jF, jG, jH, jI, jJ, e18, e19]
  by_cases c : a < 2
  · have c1 : (a : Int) < 2 := by omega
    have rX := (s.pull 1 rfl).rowR
    obtain ⟨x, hx⟩ := get_some (show a < [i.low, i.high].length from c)
    have gx : DyG x := by
      have := List.mem_of_getElem? hx
      simp only [List.mem_cons, List.not_mem_nil, or_false] at this
      rcases this with rfl | rfl
      · exact hi.low
      · exact hi.high
    obtain ⟨xs, x3, x4⟩ := rX.at hx
    rw [Dy.sz] at x3
    obtain ⟨rfl, -⟩ := here_Dy x4
    have ix := rX.isRow.ix Tryz.prog
    have lX : (([i.low, i.high].length : Nat) : Int) = 2 := rfl
    rw [lX] at ix
    have rB : rowB (.slice (some ⟨h.length + 3, 0, none⟩) 2 2) = h.length + 3 := rfl
    have rO : rowO (.slice (some ⟨h.length + 3, 0, none⟩) 2 2) = 0 := rfl
    rw [rB, rO, Nat.zero_add] at x3
    have s := s.newBlk (dyC x) 97 true
    have gk := ivRd (s.pull 4 rfl)
    simp (disch := omega) only [WA, ↓reduceIte, jA, jB, jD, jE, jF, jG, jH, jI, jJ, c1, e17, e19, ix, x3, e3, gk, rB, rO]
    have s := s.newBlk [.int .i64 k.low.n, .int .i64 k.low.k, .int .i64 k.high.n, .int .i64 k.high.k] 97 true
    simp only [List.append_assoc, List.cons_append, List.nil_append, List.length_append, List.length_cons, List.length_nil, Nat.reduceAdd] at s
    generalize h1 ++ [some ⟨dyC x, 97, false, true⟩, some ⟨[.int .i64 k.low.n, .int .i64 k.low.k, .int .i64 k.high.n, .int .i64 k.high.k], 97, false, true⟩] = H1 at s ⊢
    have s := Sep.blkRow (l := [k.low, k.high]) (n := 2) s (cells2 hk.low hk.high _) rfl (by decide)
    have s := s.pull 2 rfl
    refine loop_rule (fun m e h' => ∃ (b : Nat) (l : List Dy) (vl : Value), e 2 = .pointer (some ⟨h.length, 0, none⟩) ∧ e 3 = .pointer (some ⟨h.length + 1, 0, none⟩) ∧ e 4 = .pointer (some ⟨h.length + 2, 0, none⟩) ∧ e 6 = vl ∧ e 17 = .slice (some ⟨h.length + 3, 0, none⟩) 2 2 ∧ e 18 = .int .i64 2 ∧ e 19 = .int .i64 a ∧
      e 8 = .pointer (some ⟨h1.length, 0, none⟩) ∧ e 27 = .slice (some ⟨h1.length + 1, 0, none⟩) 2 2 ∧ e 28 = .int .i64 2 ∧ e 29 = .int .i64 b ∧
      b ≤ 2 ∧ m = 2 - b ∧ l.map some = (prodL i k).take (2 * a + b) ∧
      Sep h h' [ownA 97 l vl, repA [k.low, k.high] [.slice (some ⟨h1.length + 1, 0, none⟩) 2 2], blkA h1.length (dyC x) 97, repA [i.low, i.high] [.slice (some ⟨h.length + 3, 0, none⟩) 2 2], blkA (h.length + 2) [.int .i64 0, .int .i64 0, .int .i64 0, .int .i64 0] 122, blkA (h.length + 1) (ivC k) 122, blkA h.length (ivC i) 122]) ?_ 2 _ _
      ⟨0, l, vl, e2, e3, e4, e6, e17, e18, e19, rfl, rfl, rfl, rfl, by omega, by omega, hl, s⟩
    clear gk ix x3 x4 hl
    rintro m e h2 ⟨b, l, vl, e2, e3, e4, e6, e17, e18, e19, e8, e27, e28, e29, hb, rfl, hl, s⟩
    simp (disch := omega) only [WA, ↓reduceIte, jA, jB, jD, jE, jF, jG, jH, jI, jJ, e28, e29]
    by_cases cb : b < 2
    · have c2 : (b : Int) < 2 := by omega
      have rY := (s.pull 1 rfl).rowR
      obtain ⟨y, hy⟩ := get_some (show b < [k.low, k.high].length from cb)
      have gy : DyG y := by
        have := List.mem_of_getElem? hy
        simp only [List.mem_cons, List.not_mem_nil, or_false] at this
        rcases this with rfl | rfl
        · exact hk.low
        · exact hk.high
      have hpr := prodL_at hx hy
      obtain ⟨ys, y3, y4⟩ := rY.at hy
      rw [Dy.sz] at y3
      obtain ⟨rfl, -⟩ := here_Dy y4
      have iy := rY.isRow.ix Tryz.prog
      have lY : (([k.low, k.high].length : Nat) : Int) = 2 := rfl
      rw [lY] at iy
      have rB : rowB (.slice (some ⟨h1.length + 1, 0, none⟩) 2 2) = h1.length + 1 := rfl
      have rO : rowO (.slice (some ⟨h1.length + 1, 0, none⟩) 2 2) = 0 := rfl
      rw [rB, rO, Nat.zero_add] at y3
      have s := s.newBlk (dyC y) 97 true
      have f1 := (s.pull 3 rfl).rdAll (n := 2) rfl
      have f2 := (s.pull 0 rfl).rdAll (n := 2) rfl
      simp (disch := omega) only [WA, ↓reduceIte, jA, jB, jD, jE, jF, jG, jH, jI, jJ, c2, e27, e29, iy, y3, e8, f1, f2, rB, rO]
      refine .inl ⟨by kernel_rfl, ?_⟩; refine dyMul_c gx gy fun h3 E3 => ?_
      have s := s.mono E3
      rw [optV_eq]
      have s := s.newBlk (dyC ((mulM x y).getD ⟨0, 0⟩)) 97 true
      cases hm : mulM x y with
      | none =>
        rw [hm] at hpr s
        rw [mulI_none hpr, ivV_eq] at hQ
        simp (disch := omega) only [WA, ↓reduceIte, jA, jB, jD, jE, jF, jG, jH, jI, jJ, e4, Option.isSome_none, Option.getD_none]
        refine sep_store (s.pull 6 rfl) (by simp) fun h4 s => ?_
        have s := s.as (ds := ivC ⟨⟨0, 0⟩, ⟨0, 0⟩⟩) (by simp [t_put])
        have gz := ivRd s
        simp (disch := omega) only [WA, ↓reduceIte, jA, jB, jD, jE, jF, jG, jH, jI, jJ, e4, gz]
        exact hQ _ s.ext
      | some z =>
        rw [hm] at hpr s
        simp only [Option.getD_some] at s
        have gz := (s.pull 0 rfl).rdAll (n := 2) rfl
        have gm := mulM_good hm
        have s := (((s.tail.tail.rep0 (dy_rep gm _)).swap))
        have hlen : l.length = 2 * a + b := by
          have := congrArg List.length hl
          rw [List.length_map, List.length_take] at this
          have e4 : (prodL i k).length = 4 := rfl
          omega
        simp (disch := omega) only [WA, ↓reduceIte, jA, jB, jD, jE, jF, jG, jH, jI, jJ, e6, gz]
        refine sep_append (y := z) (ty := 97) (ro := false) (ex := true) s (by simp) (by simp) te124 tk97 rfl (by decide) (by simp only []; omega) fun w5 h6 s => ?_
        simp (disch := omega) only [WA, ↓reduceIte, jA, jB, jD, jE, jF, jG, jH, jI, jJ, e29, wrap_in]
        refine ⟨_, by omega, b + 1, l ++ [z], w5, e2, e3, e4, rfl, e17, e18, e19, e8, e27, e28, by simp, by omega, rfl, ?_, s⟩
        rw [List.map_append, hl, ← Nat.add_assoc, List.take_add_one, hpr]
        rfl
    · obtain rfl : b = 2 := by omega
      have c2 : ¬ (2 : Int) < 2 := by decide
      have c2' : ¬ ((2 : Nat) : Int) < 2 := by decide
      simp (disch := omega) only [WA, ↓reduceIte, jA, jB, jD, jE, jF, jG, jH, jI, jJ, c2', e19, wrap_in]
      exact ⟨_, by omega, a + 1, l, vl, e2, e3, e4, e6, e17, e18, by simp, by omega, rfl, by rw [hl, show 2 * (a + 1) = 2 * a + 2 by omega], s.swap.tail.swap.tail⟩
  · obtain rfl : a = 2 := by omega
    have c1 : ¬ ((2 : Nat) : Int) < 2 := by decide
    have hl : l.map some = prodL i k := by rw [hl]; rfl
    obtain ⟨hm, gl, hne⟩ := mulI_all hl
    rw [hm, ivV_eq] at hQ
    simp (disch := omega) only [WA, ↓reduceIte, jA, jB, jD, jE, jF, jG, jH, jI, jJ, c1, e6]
    refine .inl ⟨by kernel_rfl, ?_⟩; refine ivEnds_c s.row gl hne fun h2 E2 => ?_
    have s := s.mono E2
    try simp (disch := omega) only [WA, ↓reduceIte, jA, jB, jD, jE, jF, jG, jH, jI, jJ]
    refine .inl ⟨by kernel_rfl, ?_⟩; refine ivRound_c (endsM_D gl) fun h3 E3 => ?_
    have s := s.mono E3
    simp (disch := omega) only [WA, ↓reduceIte, jA, jB, jD, jE, jF, jG, jH, jI, jJ, e4]
    refine sep_store (s.pull 2 rfl) (by simp) fun h4 s => ?_
    have s := s.as (ds := ivC (rdI (endsM l))) (by simp [t_put])
    have gz := ivRd s
    simp (disch := omega) only [WA, ↓reduceIte, jA, jB, jD, jE, jF, jG, jH, jI, jJ, e4, gz]
    exact hQ _ s.ext
end Go.Proofs

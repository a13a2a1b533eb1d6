/- Contracts of functions, facts of types, or the plain law behind one statement (own work): IY. Conditions: those told in each theorem. -/
import Derived.Test.YtlnephhhcofilaaGreatIX
set_option linter.all false
set_option linter.unusedSimpArgs false
set_option linter.unusedVariables false
set_option maxRecDepth 4000
namespace Go.Proofs
open Go Go.V
open Nat renaming reduceEqDiff → jA, reduceAdd → jB, reduceMul → jD, reduceSub → jE, reduceLeDiff → jF
open Int renaming reduceLT → jG, reduceLE → jH, reduceNeg → jI, reduceEq → jJ
/- The program's edges of a boundary. -/
theorem ways_le (x y z w : Int) (k d j : Nat) : ((waysM x y z w k d).take j).flatten.length ≤ 4 * 2 ^ d := by
  have h1 : ((waysM x y z w k d).take j).flatten.length + ((waysM x y z w k d).drop j).flatten.length = 4 * 2 ^ d := by
    rw [← List.length_append, ← List.flatten_append, List.take_append_drop, ways_flat, edgesM_len]
  omega
theorem boundaryEdges_c {b : Bx} {bb off : Nat} {k d : Nat} {x y z w : Int} {h : Heap} {Q : Value → Heap → Prop} (hbb : bb < h.length) (hp : At h bb off b) (g : PlG b k x y z w) (hd : d ≤ 5)
    (hQ : ∀ v h', Sep h h' [ownA 102 (edgesM x y z w k d) v] → Q v h') : CallsV Tryz.prog 94 [.pointer (some ⟨bb, off, none⟩), .int .i64 d] h Q := by
  obtain ⟨k3, bk, low, high, x0, xy, y0, z0, zw, w0⟩ := g
  obtain ⟨N, eN, eN', hN1, hN2⟩ := pow_d hd
  have hbits : IntKind.i64.bits = 64 := rfl
  have dn : ¬ (d : Int) < 0 := by omega
  have m1 : min d 64 = d := by omega
  have dt : (d : Int).toNat = d := rfl
  have wN : IntKind.wrap .i64 (1 * (N : Int)) = (N : Int) := by rw [Int.one_mul]; exact wrap_in _ (by omega)
  refine CallsV.start Tryz.func94 rfl (by rw [Tryz.results94]) (by kernel_rfl) (by rw [Tryz.ntmps94]; simp) ?_
  simp (disch := omega) only [WA, ↓reduceIte, jA, jB, jD, jE, jF, jG, jH, jI, jJ, dn, hbits, m1, dt, eN, wN]
  refine ⟨rfl, ?_⟩
  have ws0 : IntKind.wrap .i64 (1 - 0) = 1 := rfl
  have ws1 : IntKind.wrap .i64 (1 - 1) = 0 := rfl
  have hlow0 : b.low[0]? = some x := by rw [low]; rfl
  have hlow1 : b.low[1]? = some z := by rw [low]; rfl
  have hhigh0 : b.high[0]? = some y := by rw [high]; rfl
  have hhigh1 : b.high[1]? = some w := by rw [high]; rfl
  have s := ((((Sep.blk3 h [.pointer (some ⟨bb, off, none⟩)] [.int .i64 d] [.int .i64 N] 63 3 3 true true true).pull 1 rfl).pull 2 rfl)).nilA (α := Ed) 102
  generalize h ++ [_, _, _] = H0 at s ⊢
  refine loop_rule (fun m e h' => ∃ (j : Nat) (vo : Value), e 2 = .pointer (some ⟨h.length, 0, none⟩) ∧ e 3 = .pointer (some ⟨h.length + 1, 0, none⟩) ∧ e 5 = .pointer (some ⟨h.length + 2, 0, none⟩) ∧
    e 6 = .func (.func 113) #[] #[.pointer (some ⟨h.length, 0, none⟩), .pointer (some ⟨h.length + 2, 0, none⟩), .pointer (some ⟨h.length + 1, 0, none⟩)] ∧ e 7 = vo ∧ e 17 = .int .i64 j ∧ j ≤ 4 ∧ m = 4 - j ∧
    Sep h h' [ownA 102 ((waysM x y z w k d).take j).flatten vo, blkA h.length [.pointer (some ⟨bb, off, none⟩)] 63, blkA (h.length + 1) [.int .i64 d] 3, blkA (h.length + 2) [.int .i64 N] 3]) ?_ 4 _ _
    ⟨0, _, rfl, rfl, rfl, rfl, rfl, rfl, by omega, rfl, s⟩
  clear s
  rintro m e h3 ⟨j, vo, e2, e3, e5, e6, e7, e17, hj, rfl, s⟩
  by_cases c : j < 4
  · have : j = 0 ∨ j = 1 ∨ j = 2 ∨ j = 3 := by omega
    rcases this with rfl | rfl | rfl | rfl
    -- BEGIN sides
    · have e17 : e 17 = .int .i64 0 := e17
      have tm : Int.tmod 0 2 = 0 := rfl
      have a1 := (s.pull 1 rfl).rd 0
      have a2 := (s.pull 3 rfl).rd 0
      have a3 := (s.pull 2 rfl).rd 0
      simp (disch := omega) only [WA, ↓reduceIte, jA, jB, jD, jE, jF, jG, jH, jI, jJ, e6, e17, tm, ws0, ws1]
      refine .inl ⟨by kernel_rfl, ?_⟩; refine number_c (part := 0) (hp.ext s.ext) ⟨by omega, by omega, by omega, by omega⟩ (by omega) bk k3 hd hlow1 hhigh1 hN2 (by omega) (by omega) a1 a2 a3 fun h4 E4 => ?_
      have en : numM (z * (N : Int) + 0 * (w - z)) (k + d) = numM z k := by rw [Int.zero_mul, Int.add_zero, ← eN, numM_two]
      rw [en]
      have s := (s.mono E4).newBlk (dyC (numM z k)) 97 true
      simp (disch := omega) only [WA, ↓reduceIte, jA, jB, jD, jE, jF, jG, jH, jI, jJ, e5, e6, e17]
      generalize h4 ++ [some ⟨dyC (numM z k), 97, false, true⟩] = H4 at s ⊢
      have a2 := (s.pull 4 rfl).rd 0
      simp (disch := omega) only [WA, ↓reduceIte, jA, jB, jD, jE, jF, jG, jH, jI, jJ, e5, a2]
      generalize List.length h4 = cA at s ⊢
      have s : Sep h H4 [ownA 102 (((waysM x y z w k d).take 0).flatten ++ (wayM 1 (numM z k) x y k d).take 0) vo, blkA cA (dyC (numM z k)) 97, blkA h.length [.pointer (some ⟨bb, off, none⟩)] 63, blkA (h.length + 1) [.int .i64 d] 3, blkA (h.length + 2) [.int .i64 N] 3] := by rw [show (wayM 1 (numM z k) x y k d).take 0 = [] from rfl, List.append_nil]; exact s.pull 1 rfl
      refine loop_rule (fun m2 e h' => ∃ (part : Nat) (vo : Value), e 2 = .pointer (some ⟨h.length, 0, none⟩) ∧ e 3 = .pointer (some ⟨h.length + 1, 0, none⟩) ∧ e 5 = .pointer (some ⟨h.length + 2, 0, none⟩) ∧
        e 6 = .func (.func 113) #[] #[.pointer (some ⟨h.length, 0, none⟩), .pointer (some ⟨h.length + 2, 0, none⟩), .pointer (some ⟨h.length + 1, 0, none⟩)] ∧ e 7 = vo ∧ e 8 = .int .i64 0 ∧ e 9 = .int .i64 1 ∧ e 10 = .pointer (some ⟨cA, 0, none⟩) ∧ e 17 = .int .i64 0 ∧ e 36 = .int .i64 N ∧ e 37 = .int .i64 part ∧ part ≤ N ∧ m2 = N - part ∧
        Sep h h' [ownA 102 (((waysM x y z w k d).take 0).flatten ++ (wayM 1 (numM z k) x y k d).take part) vo, blkA cA (dyC (numM z k)) 97, blkA h.length [.pointer (some ⟨bb, off, none⟩)] 63, blkA (h.length + 1) [.int .i64 d] 3, blkA (h.length + 2) [.int .i64 N] 3]) ?_ N _ _
        ⟨0, vo, e2, e3, e5, e6, e7, rfl, rfl, rfl, e17, rfl, rfl, by omega, by omega, s⟩
      clear s e2 e3 e5 e6 e7 e17 a2 a1 a3
      rintro m2 e h7 ⟨part, vo, e2, e3, e5, e6, e7, e8, e9, e10, e17, e36, e37, hpt, rfl, s⟩
      simp (disch := omega) only [WA, ↓reduceIte, jA, jB, jD, jE, jF, jG, jH, jI, jJ, e36, e37]
      by_cases c : part < N
      · have c1 : (part : Int) < (N : Int) := by omega
        have hw := wayM_at (side := 1) (mid := numM z k) (fr := x) (to := y) (k := k) (d := d) (i := part) (by omega)
        have a0 := (s.pull 1 rfl).rdAll (n := 2) rfl
        have a1 := (s.pull 2 rfl).rd 0
        have a2 := (s.pull 4 rfl).rd 0
        have a3 := (s.pull 3 rfl).rd 0
        simp (disch := omega) only [WA, ↓reduceIte, jA, jB, jD, jE, jF, jG, jH, jI, jJ, c1, e8, e37, wrap_in]
        refine draw_ord [0, 1, 2, 3, 4, 5, 6, 8, 9, 10, 11, 7, 12, 13, 14, 15, 16] (by kernel_rfl) (by simp only [WLF]; rfl) ?_
        simp (disch := omega) only [WA, ↓reduceIte, jA, jB, jD, jE, jF, jG, jH, jI, jJ, e6, e7, e9, e10, a0, ws0, ws1, wrap_in]
        refine .inl ⟨by kernel_rfl, ?_⟩; refine number_c (i := 0) (part := (part : Int)) (hp.ext s.ext) ⟨by omega, by omega, by omega, by omega⟩ (by omega) bk k3 hd hlow0 hhigh0 hN2 (by omega) (by omega) a1 a2 a3 fun h8 E8 => ?_
        have s := s.mono E8
        have a0 := (s.pull 1 rfl).rdAll (n := 2) rfl
        have a1 := (s.pull 2 rfl).rd 0
        have a2 := (s.pull 4 rfl).rd 0
        have a3 := (s.pull 3 rfl).rd 0
        simp (disch := omega) only [WA, ↓reduceIte, jA, jB, jD, jE, jF, jG, jH, jI, jJ, e6, a0, ws0, ws1]
        refine .inl ⟨by kernel_rfl, ?_⟩; refine number_c (i := 0) (part := ((part : Int) + 1)) (hp.ext s.ext) ⟨by omega, by omega, by omega, by omega⟩ (by omega) bk k3 hd hlow0 hhigh0 hN2 (by omega) (by omega) a1 a2 a3 fun h9 E9 => ?_
        have s := s.mono E9
        have a0 := (s.pull 1 rfl).rdAll (n := 2) rfl
        have a0b : ∀ X, cellsAt (h9 ++ [X]) cA 0 2 = some (dyC (numM z k)) := fun X => ((s.mono (Ext.one h9 X)).pull 1 rfl).rdAll (n := 2) rfl
        simp (disch := omega) only [WA, ↓reduceIte, jA, jB, jD, jE, jF, jG, jH, jI, jJ, a0, a0b]
        have eed : edgeM 1 (numM z k) x y k d part = ⟨1, numM z k, numM (x * N + (part : Int) * (y - x)) (k + d), numM (x * N + ((part : Int) + 1) * (y - x)) (k + d)⟩ := by
          unfold edgeM
          rw [eN]
          have q1 : x * (N : Int) + (y - x) * part = x * N + (part : Int) * (y - x) := by grind
          have q2 : x * (N : Int) + (y - x) * (part + 1) = x * N + ((part : Int) + 1) * (y - x) := by grind
          rw [q1, q2]
        have gE : EdG (edgeM 1 (numM z k) x y k d part) := by rw [eed]; exact ⟨by simp, numM_good _ _, numM_good _ _, numM_good _ _⟩
        have s := (s.rep0 (ed_rep gE _)).swap
        rw [eed] at s
        refine sep_append (y := (⟨1, numM z k, numM (x * N + (part : Int) * (y - x)) (k + d), numM (x * N + ((part : Int) + 1) * (y - x)) (k + d)⟩ : Ed)) (ty := 102) (ro := false) (ex := true) s rfl rfl te99 tk102 rfl (by decide) (by have := ways_le x y z w k d 0; simp only [List.length_append, List.length_take]; omega) fun w5 h6 s => ?_
        have a0 := (s.pull 1 rfl).rdAll (n := 2) rfl
        simp (disch := omega) only [WA, ↓reduceIte, jA, jB, jD, jE, jF, jG, jH, jI, jJ, e37, wrap_in, a0]
        refine ⟨_, by omega, part + 1, w5, e2, e3, e5, e6, rfl, e8, e9, e10, e17, e36, by simp, by omega, rfl, ?_⟩
        have ht : ((wayM 1 (numM z k) x y k d).take (part + 1) : List Ed) = (wayM 1 (numM z k) x y k d).take part ++ [(⟨1, numM z k, numM (x * N + (part : Int) * (y - x)) (k + d), numM (x * N + ((part : Int) + 1) * (y - x)) (k + d)⟩ : Ed)] := by rw [List.take_add_one, hw, eed]; rfl
        rw [ht, ← List.append_assoc]
        exact s
      · obtain rfl : part = N := by omega
        have c1 : ¬ (part : Int) < (part : Int) := by omega
        have hwl := wayM_len 1 (numM z k) x y k d
        have ef : ((waysM x y z w k d).take 1).flatten = ((waysM x y z w k d).take 0).flatten ++ (wayM 1 (numM z k) x y k d).take part := by rw [show (wayM 1 (numM z k) x y k d).take part = wayM 1 (numM z k) x y k d from List.take_of_length_le (by omega)]; simp [waysM]
        simp (disch := omega) only [WA, ↓reduceIte, jA, jB, jD, jE, jF, jG, jH, jI, jJ, c1, e17, wrap_in]
        exact ⟨_, by omega, 1, vo, e2, e3, e5, e6, e7, rfl, by omega, rfl, by rw [ef]; exact s.swap.tail⟩
    · have e17 : e 17 = .int .i64 1 := e17
      have tm : Int.tmod 1 2 = 1 := rfl
      have a1 := (s.pull 1 rfl).rd 0
      have a2 := (s.pull 3 rfl).rd 0
      have a3 := (s.pull 2 rfl).rd 0
      simp (disch := omega) only [WA, ↓reduceIte, jA, jB, jD, jE, jF, jG, jH, jI, jJ, e6, e17, tm, ws0, ws1]
      refine .inl ⟨by kernel_rfl, ?_⟩; refine number_c (part := 0) (hp.ext s.ext) ⟨by omega, by omega, by omega, by omega⟩ (by omega) bk k3 hd hlow0 hhigh0 hN2 (by omega) (by omega) a1 a2 a3 fun h4 E4 => ?_
      have en : numM (x * (N : Int) + 0 * (y - x)) (k + d) = numM x k := by rw [Int.zero_mul, Int.add_zero, ← eN, numM_two]
      rw [en]
      have s := (s.mono E4).newBlk (dyC (numM x k)) 97 true
      simp (disch := omega) only [WA, ↓reduceIte, jA, jB, jD, jE, jF, jG, jH, jI, jJ, e5, e6, e17]
      have a1 := (s.pull 2 rfl).rd 0
      have a2 := (s.pull 4 rfl).rd 0
      have a3 := (s.pull 3 rfl).rd 0
      generalize h4 ++ [some ⟨dyC (numM x k), 97, false, true⟩] = H4 at s a1 a2 a3 ⊢
      simp (disch := omega) only [WA, ↓reduceIte, jA, jB, jD, jE, jF, jG, jH, jI, jJ, e5, e6, e17, a2]
      refine .inl ⟨by kernel_rfl, ?_⟩; refine number_c (part := (N : Int)) (hp.ext s.ext) ⟨by omega, by omega, by omega, by omega⟩ (by omega) bk k3 hd hlow0 hhigh0 hN2 (by omega) (by omega) a1 a2 a3 fun h5 E5 => ?_
      have en : numM (x * (N : Int) + (N : Int) * (y - x)) (k + d) = numM y k := by rw [← numM_two y k d, eN]; congr 1; grind
      rw [en]
      have s := s.mono E5
      simp (disch := omega) only [WA, ↓reduceIte, jA, jB, jD, jE, jF, jG, jH, jI, jJ]
      refine sep_store (s.pull 0 rfl) (by simp) fun h6 s => ?_
      have s := s.as (ds := dyC (numM y k)) (by simp [t_put])
      have a2 := (s.pull 4 rfl).rd 0
      simp (disch := omega) only [WA, ↓reduceIte, jA, jB, jD, jE, jF, jG, jH, jI, jJ, e5, a2]
      generalize List.length h4 = cA at s ⊢
      have s : Sep h h6 [ownA 102 (((waysM x y z w k d).take 1).flatten ++ (wayM 0 (numM y k) z w k d).take 0) vo, blkA cA (dyC (numM y k)) 97, blkA h.length [.pointer (some ⟨bb, off, none⟩)] 63, blkA (h.length + 1) [.int .i64 d] 3, blkA (h.length + 2) [.int .i64 N] 3] := by rw [show (wayM 0 (numM y k) z w k d).take 0 = [] from rfl, List.append_nil]; exact s.pull 1 rfl
      refine loop_rule (fun m2 e h' => ∃ (part : Nat) (vo : Value), e 2 = .pointer (some ⟨h.length, 0, none⟩) ∧ e 3 = .pointer (some ⟨h.length + 1, 0, none⟩) ∧ e 5 = .pointer (some ⟨h.length + 2, 0, none⟩) ∧
        e 6 = .func (.func 113) #[] #[.pointer (some ⟨h.length, 0, none⟩), .pointer (some ⟨h.length + 2, 0, none⟩), .pointer (some ⟨h.length + 1, 0, none⟩)] ∧ e 7 = vo ∧ e 8 = .int .i64 1 ∧ e 9 = .int .i64 0 ∧ e 10 = .pointer (some ⟨cA, 0, none⟩) ∧ e 17 = .int .i64 1 ∧ e 36 = .int .i64 N ∧ e 37 = .int .i64 part ∧ part ≤ N ∧ m2 = N - part ∧
        Sep h h' [ownA 102 (((waysM x y z w k d).take 1).flatten ++ (wayM 0 (numM y k) z w k d).take part) vo, blkA cA (dyC (numM y k)) 97, blkA h.length [.pointer (some ⟨bb, off, none⟩)] 63, blkA (h.length + 1) [.int .i64 d] 3, blkA (h.length + 2) [.int .i64 N] 3]) ?_ N _ _
        ⟨0, vo, e2, e3, e5, e6, e7, rfl, rfl, rfl, e17, rfl, rfl, by omega, by omega, s⟩
      clear s e2 e3 e5 e6 e7 e17 a2 a1 a3
      rintro m2 e h7 ⟨part, vo, e2, e3, e5, e6, e7, e8, e9, e10, e17, e36, e37, hpt, rfl, s⟩
      simp (disch := omega) only [WA, ↓reduceIte, jA, jB, jD, jE, jF, jG, jH, jI, jJ, e36, e37]
      by_cases c : part < N
      · have c1 : (part : Int) < (N : Int) := by omega
        have hw := wayM_at (side := 0) (mid := numM y k) (fr := z) (to := w) (k := k) (d := d) (i := part) (by omega)
        have a0 := (s.pull 1 rfl).rdAll (n := 2) rfl
        have a1 := (s.pull 2 rfl).rd 0
        have a2 := (s.pull 4 rfl).rd 0
        have a3 := (s.pull 3 rfl).rd 0
        simp (disch := omega) only [WA, ↓reduceIte, jA, jB, jD, jE, jF, jG, jH, jI, jJ, c1, e8, e37, wrap_in]
        refine draw_ord [0, 1, 2, 3, 4, 5, 6, 8, 9, 10, 11, 7, 12, 13, 14, 15, 16] (by kernel_rfl) (by simp only [WLF]; rfl) ?_
        simp (disch := omega) only [WA, ↓reduceIte, jA, jB, jD, jE, jF, jG, jH, jI, jJ, e6, e7, e9, e10, a0, ws0, ws1, wrap_in]
        refine .inl ⟨by kernel_rfl, ?_⟩; refine number_c (i := 1) (part := (part : Int)) (hp.ext s.ext) ⟨by omega, by omega, by omega, by omega⟩ (by omega) bk k3 hd hlow1 hhigh1 hN2 (by omega) (by omega) a1 a2 a3 fun h8 E8 => ?_
        have s := s.mono E8
        have a0 := (s.pull 1 rfl).rdAll (n := 2) rfl
        have a1 := (s.pull 2 rfl).rd 0
        have a2 := (s.pull 4 rfl).rd 0
        have a3 := (s.pull 3 rfl).rd 0
        simp (disch := omega) only [WA, ↓reduceIte, jA, jB, jD, jE, jF, jG, jH, jI, jJ, e6, a0, ws0, ws1]
        refine .inl ⟨by kernel_rfl, ?_⟩; refine number_c (i := 1) (part := ((part : Int) + 1)) (hp.ext s.ext) ⟨by omega, by omega, by omega, by omega⟩ (by omega) bk k3 hd hlow1 hhigh1 hN2 (by omega) (by omega) a1 a2 a3 fun h9 E9 => ?_
        have s := s.mono E9
        have a0 := (s.pull 1 rfl).rdAll (n := 2) rfl
        have a0b : ∀ X, cellsAt (h9 ++ [X]) cA 0 2 = some (dyC (numM y k)) := fun X => ((s.mono (Ext.one h9 X)).pull 1 rfl).rdAll (n := 2) rfl
        simp (disch := omega) only [WA, ↓reduceIte, jA, jB, jD, jE, jF, jG, jH, jI, jJ, a0, a0b]
        have eed : edgeM 0 (numM y k) z w k d part = ⟨0, numM y k, numM (z * N + (part : Int) * (w - z)) (k + d), numM (z * N + ((part : Int) + 1) * (w - z)) (k + d)⟩ := by
          unfold edgeM
          rw [eN]
          have q1 : z * (N : Int) + (w - z) * part = z * N + (part : Int) * (w - z) := by grind
          have q2 : z * (N : Int) + (w - z) * (part + 1) = z * N + ((part : Int) + 1) * (w - z) := by grind
          rw [q1, q2]
        have gE : EdG (edgeM 0 (numM y k) z w k d part) := by rw [eed]; exact ⟨by simp, numM_good _ _, numM_good _ _, numM_good _ _⟩
        have s := (s.rep0 (ed_rep gE _)).swap
        rw [eed] at s
        refine sep_append (y := (⟨0, numM y k, numM (z * N + (part : Int) * (w - z)) (k + d), numM (z * N + ((part : Int) + 1) * (w - z)) (k + d)⟩ : Ed)) (ty := 102) (ro := false) (ex := true) s rfl rfl te99 tk102 rfl (by decide) (by have := ways_le x y z w k d 1; simp only [List.length_append, List.length_take]; omega) fun w5 h6 s => ?_
        have a0 := (s.pull 1 rfl).rdAll (n := 2) rfl
        simp (disch := omega) only [WA, ↓reduceIte, jA, jB, jD, jE, jF, jG, jH, jI, jJ, e37, wrap_in, a0]
        refine ⟨_, by omega, part + 1, w5, e2, e3, e5, e6, rfl, e8, e9, e10, e17, e36, by simp, by omega, rfl, ?_⟩
        have ht : ((wayM 0 (numM y k) z w k d).take (part + 1) : List Ed) = (wayM 0 (numM y k) z w k d).take part ++ [(⟨0, numM y k, numM (z * N + (part : Int) * (w - z)) (k + d), numM (z * N + ((part : Int) + 1) * (w - z)) (k + d)⟩ : Ed)] := by rw [List.take_add_one, hw, eed]; rfl
        rw [ht, ← List.append_assoc]
        exact s
      · obtain rfl : part = N := by omega
        have c1 : ¬ (part : Int) < (part : Int) := by omega
        have hwl := wayM_len 0 (numM y k) z w k d
        have ef : ((waysM x y z w k d).take 2).flatten = ((waysM x y z w k d).take 1).flatten ++ (wayM 0 (numM y k) z w k d).take part := by rw [show (wayM 0 (numM y k) z w k d).take part = wayM 0 (numM y k) z w k d from List.take_of_length_le (by omega)]; simp [waysM]
        simp (disch := omega) only [WA, ↓reduceIte, jA, jB, jD, jE, jF, jG, jH, jI, jJ, c1, e17, wrap_in]
        exact ⟨_, by omega, 2, vo, e2, e3, e5, e6, e7, rfl, by omega, rfl, by rw [ef]; exact s.swap.tail⟩
    · have e17 : e 17 = .int .i64 2 := e17
      have tm : Int.tmod 2 2 = 0 := rfl
      have a1 := (s.pull 1 rfl).rd 0
      have a2 := (s.pull 3 rfl).rd 0
      have a3 := (s.pull 2 rfl).rd 0
      simp (disch := omega) only [WA, ↓reduceIte, jA, jB, jD, jE, jF, jG, jH, jI, jJ, e6, e17, tm, ws0, ws1]
      refine .inl ⟨by kernel_rfl, ?_⟩; refine number_c (part := 0) (hp.ext s.ext) ⟨by omega, by omega, by omega, by omega⟩ (by omega) bk k3 hd hlow1 hhigh1 hN2 (by omega) (by omega) a1 a2 a3 fun h4 E4 => ?_
      have en : numM (z * (N : Int) + 0 * (w - z)) (k + d) = numM z k := by rw [Int.zero_mul, Int.add_zero, ← eN, numM_two]
      rw [en]
      have s := (s.mono E4).newBlk (dyC (numM z k)) 97 true
      simp (disch := omega) only [WA, ↓reduceIte, jA, jB, jD, jE, jF, jG, jH, jI, jJ, e5, e6, e17]
      have a1 := (s.pull 2 rfl).rd 0
      have a2 := (s.pull 4 rfl).rd 0
      have a3 := (s.pull 3 rfl).rd 0
      generalize h4 ++ [some ⟨dyC (numM z k), 97, false, true⟩] = H4 at s a1 a2 a3 ⊢
      simp (disch := omega) only [WA, ↓reduceIte, jA, jB, jD, jE, jF, jG, jH, jI, jJ, e5, e6, e17, a2]
      refine .inl ⟨by kernel_rfl, ?_⟩; refine number_c (part := (N : Int)) (hp.ext s.ext) ⟨by omega, by omega, by omega, by omega⟩ (by omega) bk k3 hd hlow1 hhigh1 hN2 (by omega) (by omega) a1 a2 a3 fun h5 E5 => ?_
      have en : numM (z * (N : Int) + (N : Int) * (w - z)) (k + d) = numM w k := by rw [← numM_two w k d, eN]; congr 1; grind
      rw [en]
      have s := s.mono E5
      simp (disch := omega) only [WA, ↓reduceIte, jA, jB, jD, jE, jF, jG, jH, jI, jJ]
      refine sep_store (s.pull 0 rfl) (by simp) fun h6 s => ?_
      have s := s.as (ds := dyC (numM w k)) (by simp [t_put])
      have a2 := (s.pull 4 rfl).rd 0
      simp (disch := omega) only [WA, ↓reduceIte, jA, jB, jD, jE, jF, jG, jH, jI, jJ, e5, a2]
      generalize List.length h4 = cA at s ⊢
      have s : Sep h h6 [ownA 102 (((waysM x y z w k d).take 2).flatten ++ (wayM 1 (numM w k) y x k d).take 0) vo, blkA cA (dyC (numM w k)) 97, blkA h.length [.pointer (some ⟨bb, off, none⟩)] 63, blkA (h.length + 1) [.int .i64 d] 3, blkA (h.length + 2) [.int .i64 N] 3] := by rw [show (wayM 1 (numM w k) y x k d).take 0 = [] from rfl, List.append_nil]; exact s.pull 1 rfl
      refine loop_rule (fun m2 e h' => ∃ (part : Nat) (vo : Value), e 2 = .pointer (some ⟨h.length, 0, none⟩) ∧ e 3 = .pointer (some ⟨h.length + 1, 0, none⟩) ∧ e 5 = .pointer (some ⟨h.length + 2, 0, none⟩) ∧
        e 6 = .func (.func 113) #[] #[.pointer (some ⟨h.length, 0, none⟩), .pointer (some ⟨h.length + 2, 0, none⟩), .pointer (some ⟨h.length + 1, 0, none⟩)] ∧ e 7 = vo ∧ e 8 = .int .i64 2 ∧ e 9 = .int .i64 1 ∧ e 10 = .pointer (some ⟨cA, 0, none⟩) ∧ e 17 = .int .i64 2 ∧ e 36 = .int .i64 N ∧ e 37 = .int .i64 part ∧ part ≤ N ∧ m2 = N - part ∧
        Sep h h' [ownA 102 (((waysM x y z w k d).take 2).flatten ++ (wayM 1 (numM w k) y x k d).take part) vo, blkA cA (dyC (numM w k)) 97, blkA h.length [.pointer (some ⟨bb, off, none⟩)] 63, blkA (h.length + 1) [.int .i64 d] 3, blkA (h.length + 2) [.int .i64 N] 3]) ?_ N _ _
        ⟨0, vo, e2, e3, e5, e6, e7, rfl, rfl, rfl, e17, rfl, rfl, by omega, by omega, s⟩
      clear s e2 e3 e5 e6 e7 e17 a2 a1 a3
      rintro m2 e h7 ⟨part, vo, e2, e3, e5, e6, e7, e8, e9, e10, e17, e36, e37, hpt, rfl, s⟩
      simp (disch := omega) only [WA, ↓reduceIte, jA, jB, jD, jE, jF, jG, jH, jI, jJ, e36, e37]
      by_cases c : part < N
      · have c1 : (part : Int) < (N : Int) := by omega
        have hw := wayM_at (side := 1) (mid := numM w k) (fr := y) (to := x) (k := k) (d := d) (i := part) (by omega)
        have a0 := (s.pull 1 rfl).rdAll (n := 2) rfl
        have a1 := (s.pull 2 rfl).rd 0
        have a2 := (s.pull 4 rfl).rd 0
        have a3 := (s.pull 3 rfl).rd 0
        simp (disch := omega) only [WA, ↓reduceIte, jA, jB, jD, jE, jF, jG, jH, jI, jJ, c1, e5, e8, e37, a2, wrap_in]
        refine draw_ord [0, 1, 2, 3, 4, 5, 6, 7, 8] (by kernel_rfl) (by simp only [WLF]; rfl) ?_
        simp (disch := omega) only [WA, ↓reduceIte, jA, jB, jD, jE, jF, jG, jH, jI, jJ, e5, a2, wrap_in]
        refine draw_ord [0, 1, 2, 3, 4, 5, 6, 8, 9, 10, 11, 7, 12, 13, 14, 15, 16] (by kernel_rfl) (by simp only [WLF]; rfl) ?_
        simp (disch := omega) only [WA, ↓reduceIte, jA, jB, jD, jE, jF, jG, jH, jI, jJ, e6, e7, e9, e10, a0, ws0, ws1, wrap_in]
        refine .inl ⟨by kernel_rfl, ?_⟩; refine number_c (i := 0) (part := ((N : Int) - part)) (hp.ext s.ext) ⟨by omega, by omega, by omega, by omega⟩ (by omega) bk k3 hd hlow0 hhigh0 hN2 (by omega) (by omega) a1 a2 a3 fun h8 E8 => ?_
        have s := s.mono E8
        have a0 := (s.pull 1 rfl).rdAll (n := 2) rfl
        have a1 := (s.pull 2 rfl).rd 0
        have a2 := (s.pull 4 rfl).rd 0
        have a3 := (s.pull 3 rfl).rd 0
        simp (disch := omega) only [WA, ↓reduceIte, jA, jB, jD, jE, jF, jG, jH, jI, jJ, e6, a0, ws0, ws1]
        refine .inl ⟨by kernel_rfl, ?_⟩; refine number_c (i := 0) (part := ((N : Int) - part - 1)) (hp.ext s.ext) ⟨by omega, by omega, by omega, by omega⟩ (by omega) bk k3 hd hlow0 hhigh0 hN2 (by omega) (by omega) a1 a2 a3 fun h9 E9 => ?_
        have s := s.mono E9
        have a0 := (s.pull 1 rfl).rdAll (n := 2) rfl
        have a0b : ∀ X, cellsAt (h9 ++ [X]) cA 0 2 = some (dyC (numM w k)) := fun X => ((s.mono (Ext.one h9 X)).pull 1 rfl).rdAll (n := 2) rfl
        simp (disch := omega) only [WA, ↓reduceIte, jA, jB, jD, jE, jF, jG, jH, jI, jJ, a0, a0b]
        have eed : edgeM 1 (numM w k) y x k d part = ⟨1, numM w k, numM (x * N + ((N : Int) - part) * (y - x)) (k + d), numM (x * N + ((N : Int) - part - 1) * (y - x)) (k + d)⟩ := by
          unfold edgeM
          rw [eN]
          have q1 : y * (N : Int) + (x - y) * part = x * N + ((N : Int) - part) * (y - x) := by grind
          have q2 : y * (N : Int) + (x - y) * (part + 1) = x * N + ((N : Int) - part - 1) * (y - x) := by grind
          rw [q1, q2]
        have gE : EdG (edgeM 1 (numM w k) y x k d part) := by rw [eed]; exact ⟨by simp, numM_good _ _, numM_good _ _, numM_good _ _⟩
        have s := (s.rep0 (ed_rep gE _)).swap
        rw [eed] at s
        refine sep_append (y := (⟨1, numM w k, numM (x * N + ((N : Int) - part) * (y - x)) (k + d), numM (x * N + ((N : Int) - part - 1) * (y - x)) (k + d)⟩ : Ed)) (ty := 102) (ro := false) (ex := true) s rfl rfl te99 tk102 rfl (by decide) (by have := ways_le x y z w k d 2; simp only [List.length_append, List.length_take]; omega) fun w5 h6 s => ?_
        have a0 := (s.pull 1 rfl).rdAll (n := 2) rfl
        simp (disch := omega) only [WA, ↓reduceIte, jA, jB, jD, jE, jF, jG, jH, jI, jJ, e37, wrap_in, a0]
        refine ⟨_, by omega, part + 1, w5, e2, e3, e5, e6, rfl, e8, e9, e10, e17, e36, by simp, by omega, rfl, ?_⟩
        have ht : ((wayM 1 (numM w k) y x k d).take (part + 1) : List Ed) = (wayM 1 (numM w k) y x k d).take part ++ [(⟨1, numM w k, numM (x * N + ((N : Int) - part) * (y - x)) (k + d), numM (x * N + ((N : Int) - part - 1) * (y - x)) (k + d)⟩ : Ed)] := by rw [List.take_add_one, hw, eed]; rfl
        rw [ht, ← List.append_assoc]
        exact s
      · obtain rfl : part = N := by omega
        have c1 : ¬ (part : Int) < (part : Int) := by omega
        have hwl := wayM_len 1 (numM w k) y x k d
        have ef : ((waysM x y z w k d).take 3).flatten = ((waysM x y z w k d).take 2).flatten ++ (wayM 1 (numM w k) y x k d).take part := by rw [show (wayM 1 (numM w k) y x k d).take part = wayM 1 (numM w k) y x k d from List.take_of_length_le (by omega)]; simp [waysM]
        simp (disch := omega) only [WA, ↓reduceIte, jA, jB, jD, jE, jF, jG, jH, jI, jJ, c1, e17, wrap_in]
        exact ⟨_, by omega, 3, vo, e2, e3, e5, e6, e7, rfl, by omega, rfl, by rw [ef]; exact s.swap.tail⟩
    · have e17 : e 17 = .int .i64 3 := e17
      have tm : Int.tmod 3 2 = 1 := rfl
      have a1 := (s.pull 1 rfl).rd 0
      have a2 := (s.pull 3 rfl).rd 0
      have a3 := (s.pull 2 rfl).rd 0
      simp (disch := omega) only [WA, ↓reduceIte, jA, jB, jD, jE, jF, jG, jH, jI, jJ, e6, e17, tm, ws0, ws1]
      refine .inl ⟨by kernel_rfl, ?_⟩; refine number_c (part := 0) (hp.ext s.ext) ⟨by omega, by omega, by omega, by omega⟩ (by omega) bk k3 hd hlow0 hhigh0 hN2 (by omega) (by omega) a1 a2 a3 fun h4 E4 => ?_
      have en : numM (x * (N : Int) + 0 * (y - x)) (k + d) = numM x k := by rw [Int.zero_mul, Int.add_zero, ← eN, numM_two]
      rw [en]
      have s := (s.mono E4).newBlk (dyC (numM x k)) 97 true
      simp (disch := omega) only [WA, ↓reduceIte, jA, jB, jD, jE, jF, jG, jH, jI, jJ, e5, e6, e17]
      generalize h4 ++ [some ⟨dyC (numM x k), 97, false, true⟩] = H4 at s ⊢
      have a2 := (s.pull 4 rfl).rd 0
      simp (disch := omega) only [WA, ↓reduceIte, jA, jB, jD, jE, jF, jG, jH, jI, jJ, e5, a2]
      generalize List.length h4 = cA at s ⊢
      have s : Sep h H4 [ownA 102 (((waysM x y z w k d).take 3).flatten ++ (wayM 0 (numM x k) w z k d).take 0) vo, blkA cA (dyC (numM x k)) 97, blkA h.length [.pointer (some ⟨bb, off, none⟩)] 63, blkA (h.length + 1) [.int .i64 d] 3, blkA (h.length + 2) [.int .i64 N] 3] := by rw [show (wayM 0 (numM x k) w z k d).take 0 = [] from rfl, List.append_nil]; exact s.pull 1 rfl
      refine loop_rule (fun m2 e h' => ∃ (part : Nat) (vo : Value), e 2 = .pointer (some ⟨h.length, 0, none⟩) ∧ e 3 = .pointer (some ⟨h.length + 1, 0, none⟩) ∧ e 5 = .pointer (some ⟨h.length + 2, 0, none⟩) ∧
        e 6 = .func (.func 113) #[] #[.pointer (some ⟨h.length, 0, none⟩), .pointer (some ⟨h.length + 2, 0, none⟩), .pointer (some ⟨h.length + 1, 0, none⟩)] ∧ e 7 = vo ∧ e 8 = .int .i64 3 ∧ e 9 = .int .i64 0 ∧ e 10 = .pointer (some ⟨cA, 0, none⟩) ∧ e 17 = .int .i64 3 ∧ e 36 = .int .i64 N ∧ e 37 = .int .i64 part ∧ part ≤ N ∧ m2 = N - part ∧
        Sep h h' [ownA 102 (((waysM x y z w k d).take 3).flatten ++ (wayM 0 (numM x k) w z k d).take part) vo, blkA cA (dyC (numM x k)) 97, blkA h.length [.pointer (some ⟨bb, off, none⟩)] 63, blkA (h.length + 1) [.int .i64 d] 3, blkA (h.length + 2) [.int .i64 N] 3]) ?_ N _ _
        ⟨0, vo, e2, e3, e5, e6, e7, rfl, rfl, rfl, e17, rfl, rfl, by omega, by omega, s⟩
      clear s e2 e3 e5 e6 e7 e17 a2 a1 a3
      rintro m2 e h7 ⟨part, vo, e2, e3, e5, e6, e7, e8, e9, e10, e17, e36, e37, hpt, rfl, s⟩
      simp (disch := omega) only [WA, ↓reduceIte, jA, jB, jD, jE, jF, jG, jH, jI, jJ, e36, e37]
      by_cases c : part < N
      · have c1 : (part : Int) < (N : Int) := by omega
        have hw := wayM_at (side := 0) (mid := numM x k) (fr := w) (to := z) (k := k) (d := d) (i := part) (by omega)
        have a0 := (s.pull 1 rfl).rdAll (n := 2) rfl
        have a1 := (s.pull 2 rfl).rd 0
        have a2 := (s.pull 4 rfl).rd 0
        have a3 := (s.pull 3 rfl).rd 0
        simp (disch := omega) only [WA, ↓reduceIte, jA, jB, jD, jE, jF, jG, jH, jI, jJ, c1, e5, e8, e37, a2, wrap_in]
        refine draw_ord [0, 1, 2, 3, 4, 5, 6, 7, 8] (by kernel_rfl) (by simp only [WLF]; rfl) ?_
        simp (disch := omega) only [WA, ↓reduceIte, jA, jB, jD, jE, jF, jG, jH, jI, jJ, e5, a2, wrap_in]
        refine draw_ord [0, 1, 2, 3, 4, 5, 6, 8, 9, 10, 11, 7, 12, 13, 14, 15, 16] (by kernel_rfl) (by simp only [WLF]; rfl) ?_
        simp (disch := omega) only [WA, ↓reduceIte, jA, jB, jD, jE, jF, jG, jH, jI, jJ, e6, e7, e9, e10, a0, ws0, ws1, wrap_in]
        refine .inl ⟨by kernel_rfl, ?_⟩; refine number_c (i := 1) (part := ((N : Int) - part)) (hp.ext s.ext) ⟨by omega, by omega, by omega, by omega⟩ (by omega) bk k3 hd hlow1 hhigh1 hN2 (by omega) (by omega) a1 a2 a3 fun h8 E8 => ?_
        have s := s.mono E8
        have a0 := (s.pull 1 rfl).rdAll (n := 2) rfl
        have a1 := (s.pull 2 rfl).rd 0
        have a2 := (s.pull 4 rfl).rd 0
        have a3 := (s.pull 3 rfl).rd 0
        simp (disch := omega) only [WA, ↓reduceIte, jA, jB, jD, jE, jF, jG, jH, jI, jJ, e6, a0, ws0, ws1]
        refine .inl ⟨by kernel_rfl, ?_⟩; refine number_c (i := 1) (part := ((N : Int) - part - 1)) (hp.ext s.ext) ⟨by omega, by omega, by omega, by omega⟩ (by omega) bk k3 hd hlow1 hhigh1 hN2 (by omega) (by omega) a1 a2 a3 fun h9 E9 => ?_
        have s := s.mono E9
        have a0 := (s.pull 1 rfl).rdAll (n := 2) rfl
        have a0b : ∀ X, cellsAt (h9 ++ [X]) cA 0 2 = some (dyC (numM x k)) := fun X => ((s.mono (Ext.one h9 X)).pull 1 rfl).rdAll (n := 2) rfl
        simp (disch := omega) only [WA, ↓reduceIte, jA, jB, jD, jE, jF, jG, jH, jI, jJ, a0, a0b]
        have eed : edgeM 0 (numM x k) w z k d part = ⟨0, numM x k, numM (z * N + ((N : Int) - part) * (w - z)) (k + d), numM (z * N + ((N : Int) - part - 1) * (w - z)) (k + d)⟩ := by
          unfold edgeM
          rw [eN]
          have q1 : w * (N : Int) + (z - w) * part = z * N + ((N : Int) - part) * (w - z) := by grind
          have q2 : w * (N : Int) + (z - w) * (part + 1) = z * N + ((N : Int) - part - 1) * (w - z) := by grind
          rw [q1, q2]
        have gE : EdG (edgeM 0 (numM x k) w z k d part) := by rw [eed]; exact ⟨by simp, numM_good _ _, numM_good _ _, numM_good _ _⟩
        have s := (s.rep0 (ed_rep gE _)).swap
        rw [eed] at s
        refine sep_append (y := (⟨0, numM x k, numM (z * N + ((N : Int) - part) * (w - z)) (k + d), numM (z * N + ((N : Int) - part - 1) * (w - z)) (k + d)⟩ : Ed)) (ty := 102) (ro := false) (ex := true) s rfl rfl te99 tk102 rfl (by decide) (by have := ways_le x y z w k d 3; simp only [List.length_append, List.length_take]; omega) fun w5 h6 s => ?_
        have a0 := (s.pull 1 rfl).rdAll (n := 2) rfl
        simp (disch := omega) only [WA, ↓reduceIte, jA, jB, jD, jE, jF, jG, jH, jI, jJ, e37, wrap_in, a0]
        refine ⟨_, by omega, part + 1, w5, e2, e3, e5, e6, rfl, e8, e9, e10, e17, e36, by simp, by omega, rfl, ?_⟩
        have ht : ((wayM 0 (numM x k) w z k d).take (part + 1) : List Ed) = (wayM 0 (numM x k) w z k d).take part ++ [(⟨0, numM x k, numM (z * N + ((N : Int) - part) * (w - z)) (k + d), numM (z * N + ((N : Int) - part - 1) * (w - z)) (k + d)⟩ : Ed)] := by rw [List.take_add_one, hw, eed]; rfl
        rw [ht, ← List.append_assoc]
        exact s
      · obtain rfl : part = N := by omega
        have c1 : ¬ (part : Int) < (part : Int) := by omega
        have hwl := wayM_len 0 (numM x k) w z k d
        have ef : ((waysM x y z w k d).take 4).flatten = ((waysM x y z w k d).take 3).flatten ++ (wayM 0 (numM x k) w z k d).take part := by rw [show (wayM 0 (numM x k) w z k d).take part = wayM 0 (numM x k) w z k d from List.take_of_length_le (by omega)]; simp [waysM]
        simp (disch := omega) only [WA, ↓reduceIte, jA, jB, jD, jE, jF, jG, jH, jI, jJ, c1, e17, wrap_in]
        exact ⟨_, by omega, 4, vo, e2, e3, e5, e6, e7, rfl, by omega, rfl, by rw [ef]; exact s.swap.tail⟩
    -- END sides
  · obtain rfl : j = 4 := by omega
    have e17 : e 17 = .int .i64 4 := e17
    rw [show ((waysM x y z w k d).take 4).flatten = edgesM x y z w k d by rw [← ways_flat]; rfl] at s
    simp (disch := omega) only [WA, ↓reduceIte, jA, jB, jD, jE, jF, jG, jH, jI, jJ, e17, e7]
    exact hQ _ _ s.head
end Go.Proofs

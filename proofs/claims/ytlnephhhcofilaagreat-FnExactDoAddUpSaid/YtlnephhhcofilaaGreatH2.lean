/- Contracts of functions, facts of types, or the plain law behind one statement (own work): H2. Conditions: those told in each theorem. -/
import Derived.Test.YtlnephhhcofilaaGreatH1
set_option linter.all false
set_option linter.unusedSimpArgs false
set_option linter.unusedVariables false
set_option maxRecDepth 4000
namespace Go.Proofs
open Go Go.V
open Nat (reduceEqDiff reduceAdd reduceMul reduceSub reduceLeDiff)
open Int (reduceLT reduceLE reduceNeg reduceEq)
structure Bx where
  k : Int
  low : (List Int)
  high : (List Int)
  deriving DecidableEq, Inhabited
instance : Rep Bx := Rep.iso (α := Int × (List Int) × (List Int)) fun x => (x.k, x.low, x.high)
theorem Bx.sz : Rep.sz Bx = 3 := rfl
instance : Giv Bx := Giv.iso (α := Int × (List Int) × (List Int)) (fun (x : Bx) => (x.k, x.low, x.high)) (⟨(-7000000000000000101), [(-7000000000000000101)], [(-7000000000000000101)]⟩ : Bx)
instance : Siz Bx := ⟨fun x => Siz.siz x.k + Siz.siz x.low + Siz.siz x.high⟩
theorem here_Bx {h : Heap} {x : Bx} {cs : List Value} (hr : Here h x cs) : ∃ v1 v2, cs = [.int .i64 x.k, v1, v2] ∧ inI64 x.k ∧ Row h x.low v1 ∧ Row h x.high v2 := by
  have hrp : Here (α := Int × (List Int) × (List Int)) h (x.k, x.low, x.high) _ := hr
  obtain ⟨c1, d1, rfl, q1, r1⟩ := here_pair hrp
  obtain ⟨rfl, f2⟩ := here_int q1
  obtain ⟨c3, d3, rfl, q3, r3⟩ := here_pair r1
  obtain ⟨w4, rfl, f4⟩ := here_list q3
  obtain ⟨w5, rfl, f5⟩ := here_list r3
  exact ⟨w4, w5, rfl, f2, f4, f5⟩
theorem giv_Bx {h : Heap} {x : Bx} {cs : List Value} (hr : GivH h x cs) : ∃ v1 v2, cs = [.int .i64 x.k, v1, v2] ∧ inI64 x.k ∧ GivH h x.low [v1] ∧ GivH h x.high [v2] := by
  have hrp : GivH (α := Int × (List Int) × (List Int)) h (x.k, x.low, x.high) _ := hr
  obtain ⟨c1, d1, rfl, q1, r1⟩ := giv_pair hrp
  obtain ⟨rfl, f2⟩ := giv_int q1
  obtain ⟨c3, d3, rfl, q3, r3⟩ := giv_pair r1
  obtain ⟨w4, rfl, f4⟩ := giv_list q3
  obtain ⟨w5, rfl, f5⟩ := giv_list r3
  exact ⟨w4, w5, rfl, f2, f4, f5⟩
theorem mk_Bx {h : Heap} {x : Bx} {v1 v2 : Value} (h1 : inI64 x.k) (h2 : Row h x.low v1) (h3 : Row h x.high v2) : Here h x [.int .i64 x.k, v1, v2] := (mk_pair (p := (x.k, (x.low, x.high))) (mk_int h1) (mk_pair (p := (x.low, x.high)) (mk_list h2) (mk_list h3)))
theorem mkg_Bx {h : Heap} {x : Bx} {v1 v2 : Value} (h1 : inI64 x.k) (h2 : GivH h x.low [v1]) (h3 : GivH h x.high [v2]) : GivH h x [.int .i64 x.k, v1, v2] := (mkg_pair (p := (x.k, (x.low, x.high))) (mkg_int h1) (mkg_pair (p := (x.low, x.high)) h2 h3))
theorem at_Bx {h : Heap} {b off : Nat} {x : Bx} (hp : At h b off x) : ∃ v1 v2, getC h b off = some (.int .i64 x.k) ∧ getC h b (off + 1) = some (v1) ∧ getC h b (off + 2) = some (v2) ∧ inI64 x.k ∧ Row h x.low v1 ∧ Row h x.high v2 ∧ cellsAt h b off 3 = some [.int .i64 x.k, v1, v2] := by
  obtain ⟨cs, hc, hr⟩ := hp
  rw [Bx.sz] at hc
  obtain ⟨w1, w2, rfl, f1, f2, f3⟩ := here_Bx hr
  exact ⟨w1, w2, cellsAt_getC hc 0 (by decide), cellsAt_getC hc 1 (by decide), cellsAt_getC hc 2 (by decide), f1, f2, f3, hc⟩
theorem zero_Bx (h : Heap) : Rep.rep h (⟨0, [], []⟩ : Bx) [.int .i64 0, .slice none 0 0, .slice none 0 0] [] := (rep_pair0 (p := ((0, ([], [])) : (Int × ((List Int) × (List Int))))) (rep_int (h := h) ⟨by decide, by decide⟩) (rep_pair0 (p := (([], []) : ((List Int) × (List Int)))) (rep_nil (h := h)) (rep_nil (h := h))))
def fill_Bx : Bx := ⟨(-7000000000000000101), [(-7000000000000000101)], [(-7000000000000000101)]⟩
theorem fillerBox_c {h : Heap} {Q : Value → Heap → Prop} (hQ : ∀ cs' h', Sep h h' [repA fill_Bx cs'] → Q (.agg cs'.toArray) h') : CallsV Tryz.prog 42 [] h Q := by
  refine CallsV.start Tryz.func42 rfl (by rw [Tryz.results42]) (by kernel_rfl) (by rw [Tryz.ntmps42]; simp) ?_
  simp (disch := omega) only [WA, ↓reduceIte, reduceEqDiff, reduceAdd, reduceMul, reduceSub, reduceLeDiff, reduceLT, reduceLE, reduceNeg, reduceEq]
  refine hQ _ _ ?_
  have s := Sep.blk3 h [.int .i64 (-7000000000000000101), .slice (some ⟨h.length + 1, 0, none⟩) 1 1, .slice (some ⟨h.length + 2, 0, none⟩) 1 1] [.int .i64 (-7000000000000000101)] [.int .i64 (-7000000000000000101)] 32 3 3 true true true
  have s := (s.blkRow (n := 1) (l := [(-7000000000000000101 : Int)]) ⟨[[]], Cells.one (rep_int ⟨by decide, by decide⟩), rfl⟩ rfl (by decide)).swap
  have s := s.blkRow (n := 1) (l := [(-7000000000000000101 : Int)]) ⟨[[]], Cells.one (rep_int ⟨by decide, by decide⟩), rfl⟩ rfl (by decide)
  have s := Sep.pair (Sep.flat (x := repA (-7000000000000000101 : Int) _) (Sep.pair s) (rep_int ⟨by decide, by decide⟩))
  exact s.head
theorem szBox_c {x : Bx} {cs : List Value} {left : Int} {h : Heap} {Q : Value → Heap → Prop} (hx : Here h x cs) (h0 : 0 ≤ left) (h1 : left ≤ 1000000)
    (hQ : ∀ h', Ext h h' → Q (.int .i64 (szR left (Siz.siz x))) h') : CallsV Tryz.prog 8 [.agg cs.toArray, .int .i64 left] h Q := by
  have hs : Siz.siz x = Siz.siz x.k + Siz.siz x.low + Siz.siz x.high := rfl
  have zK : Siz.siz x.k = 0 := rfl
  obtain ⟨v1, v2, rfl, vf1, vf2, vf3⟩ := here_Bx hx
  refine CallsV.start Tryz.func8 rfl (by rw [Tryz.results8]) (by kernel_rfl) (by rw [Tryz.ntmps8]; simp) ?_
  have s := Sep.blk1 h [.int .i64 x.k, v1, v2] 25 true
  simp (disch := omega) only [WA, ↓reduceIte, reduceEqDiff, reduceAdd, reduceMul, reduceSub, reduceLeDiff, reduceLT, reduceLE, reduceNeg, reduceEq]
  refine .inl ⟨by kernel_rfl, ?_⟩; refine szIntS_c (vf2.mono s.ext) (by omega) (by omega) fun h1 E1 => ?_
  have s := s.mono E1
  have g := s.rd
  by_cases c1 : left < (Siz.siz x.low : Int)
  · rw [szR_lt c1]
    simp (disch := omega) only [WA, ↓reduceIte, reduceEqDiff, reduceAdd, reduceMul, reduceSub, reduceLeDiff, reduceLT, reduceLE, reduceNeg, reduceEq]
    rw [szR_lt (by omega)] at hQ
    exact hQ _ s.ext
  · rw [szR_ge c1]
    have c' : ¬ left - (Siz.siz x.low : Int) < 0 := by omega
    simp (disch := omega) only [WA, ↓reduceIte, reduceEqDiff, reduceAdd, reduceMul, reduceSub, reduceLeDiff, reduceLT, reduceLE, reduceNeg, reduceEq, c', g]
    refine .inl ⟨by kernel_rfl, ?_⟩; refine szIntS_c (vf3.mono s.ext) (by omega) (by omega) fun h2 E2 => ?_
    have s := s.mono E2
    have g := s.rd
    by_cases c2 : left - (Siz.siz x.low : Int) < (Siz.siz x.high : Int)
    · rw [szR_lt c2]
      simp (disch := omega) only [WA, ↓reduceIte, reduceEqDiff, reduceAdd, reduceMul, reduceSub, reduceLeDiff, reduceLT, reduceLE, reduceNeg, reduceEq]
      rw [szR_lt (by omega)] at hQ
      exact hQ _ s.ext
    · rw [szR_ge c2]
      have c' : ¬ left - (Siz.siz x.low : Int) - (Siz.siz x.high : Int) < 0 := by omega
      simp (disch := omega) only [WA, ↓reduceIte, reduceEqDiff, reduceAdd, reduceMul, reduceSub, reduceLeDiff, reduceLT, reduceLE, reduceNeg, reduceEq, c', g]
      rw [szR_ge (by omega)] at hQ
      have e : left - (Siz.siz x : Int) = left - (Siz.siz x.low : Int) - (Siz.siz x.high : Int) := by omega
      rw [e] at hQ
      exact hQ _ s.ext
theorem toBox_c {x : Bx} {b : Bool} {cs : List Value} {h : Heap} {Q : Value → Heap → Prop} (hx : Here h x cs) (hn : Siz.siz x ≤ 1000000)
    (hQ : ∀ cs' h', Sep h h' [givA b x cs'] → Q (.agg cs'.toArray) h') : CallsV Tryz.prog 11 [.agg cs.toArray, .bool b] h Q := by
  have hs : Siz.siz x = Siz.siz x.k + Siz.siz x.low + Siz.siz x.high := rfl
  obtain ⟨v1, v2, rfl, vf1, vf2, vf3⟩ := here_Bx hx
  refine CallsV.start Tryz.func11 rfl (by rw [Tryz.results11]) (by kernel_rfl) (by rw [Tryz.ntmps11]; simp) ?_
  simp (disch := omega) only [WA, ↓reduceIte, reduceEqDiff, reduceAdd, reduceMul, reduceSub, reduceLeDiff, reduceLT, reduceLE, reduceNeg, reduceEq]
  have s := Sep.blk3 h [.int .i64 x.k, v1, v2] [.int .i64 0, .slice none 0 0, .slice none 0 0] [.int .i64 x.k, .slice none 0 0, .slice none 0 0] 25 32 32 true true true
  refine .inl ⟨by kernel_rfl, ?_⟩; refine toIntS_c (vf2.mono s.ext) (by omega) fun w1 h1 s1 => ?_
  have l1 := s1.gRep.rowR.isRow.cells
  have s := s.add s1
  simp (disch := omega) only [WA, ↓reduceIte, reduceEqDiff, reduceAdd, reduceMul, reduceSub, reduceLeDiff, reduceLT, reduceLE, reduceNeg, reduceEq, l1]
  refine sep_store (s.pull 1 rfl) (by simp [l1]) fun h1' s => ?_
  have s := s.as (ds := [.int .i64 x.k, w1, .slice none 0 0]) (by simp [t_put, l1])
  have g := (s.pull 3 rfl).rd
  simp (disch := omega) only [WA, ↓reduceIte, reduceEqDiff, reduceAdd, reduceMul, reduceSub, reduceLeDiff, reduceLT, reduceLE, reduceNeg, reduceEq, g, l1]
  refine .inl ⟨by kernel_rfl, ?_⟩; refine toIntS_c (vf3.mono s.ext) (by omega) fun w2 h2 s2 => ?_
  have l2 := s2.gRep.rowR.isRow.cells
  have s := s.add s2
  simp (disch := omega) only [WA, ↓reduceIte, reduceEqDiff, reduceAdd, reduceMul, reduceSub, reduceLeDiff, reduceLT, reduceLE, reduceNeg, reduceEq, g, l1, l2]
  refine sep_store (s.pull 1 rfl) (by simp [l1, l2]) fun h2' s => ?_
  have s := s.as (ds := [.int .i64 x.k, w1, w2]) (by simp [t_put, l1, l2])
  have g := (s.pull 4 rfl).rd
  have ga := s.rdAll (n := 3) (by simp [l1, l2])
  simp (disch := omega) only [WA, ↓reduceIte, reduceEqDiff, reduceAdd, reduceMul, reduceSub, reduceLeDiff, reduceLT, reduceLE, reduceNeg, reduceEq, ga, l1, l2]
  refine sep_store (s.pull 3 rfl) (by simp [l1, l2]) fun hz s => ?_
  have s := s.as (ds := [.int .i64 x.k, w1, w2]) (by simp [t_put, l1, l2])
  have ga := s.rdAll (n := 3) (by simp [l1, l2])
  simp (disch := omega) only [WA, ↓reduceIte, reduceEqDiff, reduceAdd, reduceMul, reduceSub, reduceLeDiff, reduceLT, reduceLE, reduceNeg, reduceEq, ga]
  have s := s.tail.tail
  have s := Sep.gpair (Sep.swap s)
  have s := Sep.gpair (Sep.flat (x := givA b x.k _) s (rep_int vf1))
  exact hQ _ _ s.head
theorem eqBox_c {x y : Bx} {cs ds : List Value} {h : Heap} {Q : Value → Heap → Prop} (hx : Here h x cs) (hy : Here h y ds)
    (hQ : ∀ h', Ext h h' → Q (.bool (decide (x = y))) h') : CallsV Tryz.prog 61 [.agg cs.toArray, .agg ds.toArray] h Q := by
  obtain ⟨v1, v2, rfl, vf1, vf2, vf3⟩ := here_Bx hx
  obtain ⟨u1, u2, rfl, uf1, uf2, uf3⟩ := here_Bx hy
  refine CallsV.start Tryz.func61 rfl (by rw [Tryz.results61]) (by kernel_rfl) (by rw [Tryz.ntmps61]; simp) ?_
  have s := Sep.blk2 h [.int .i64 x.k, v1, v2] [.int .i64 y.k, u1, u2] 32 32 true true
  have he : (x = y) ↔ (x.k = y.k ∧ x.low = y.low ∧ x.high = y.high) := by cases x; cases y; simp
  simp (disch := omega) only [WA, ↓reduceIte, reduceEqDiff, reduceAdd, reduceMul, reduceSub, reduceLeDiff, reduceLT, reduceLE, reduceNeg, reduceEq]
  by_cases c1 : ¬ x.k = y.k
  · simp (disch := omega) only [WA, ↓reduceIte, reduceEqDiff, reduceAdd, reduceMul, reduceSub, reduceLeDiff, reduceLT, reduceLE, reduceNeg, reduceEq, c1]
    simpa [he, c1] using hQ _ s.ext
  have c1 := Decidable.not_not.1 c1
  have d1 := decide_eq_true c1
  simp (disch := omega) only [WA, ↓reduceIte, reduceEqDiff, reduceAdd, reduceMul, reduceSub, reduceLeDiff, reduceLT, reduceLE, reduceNeg, reduceEq, d1]
  refine .inl ⟨by kernel_rfl, ?_⟩; refine eqIntS_c (vf2.mono s.ext) (uf2.mono s.ext) fun h2 E2 => ?_
  have s := s.mono E2
  have g1 := s.rd
  have g2 := s.tail.rd
  by_cases c2 : ¬ x.low = y.low
  · simp (disch := omega) only [WA, ↓reduceIte, reduceEqDiff, reduceAdd, reduceMul, reduceSub, reduceLeDiff, reduceLT, reduceLE, reduceNeg, reduceEq, c2]
    simpa [he, c1, c2] using hQ _ s.ext
  have c2 := Decidable.not_not.1 c2
  have d2 := decide_eq_true c2
  simp (disch := omega) only [WA, ↓reduceIte, reduceEqDiff, reduceAdd, reduceMul, reduceSub, reduceLeDiff, reduceLT, reduceLE, reduceNeg, reduceEq, d2, g1, g2]
  refine .inl ⟨by kernel_rfl, ?_⟩; refine eqIntS_c (vf3.mono s.ext) (uf3.mono s.ext) fun h3 E3 => ?_
  have s := s.mono E3
  have g1 := s.rd
  have g2 := s.tail.rd
  by_cases c3 : ¬ x.high = y.high
  · simp (disch := omega) only [WA, ↓reduceIte, reduceEqDiff, reduceAdd, reduceMul, reduceSub, reduceLeDiff, reduceLT, reduceLE, reduceNeg, reduceEq, c3]
    simpa [he, c1, c2, c3] using hQ _ s.ext
  have c3 := Decidable.not_not.1 c3
  have d3 := decide_eq_true c3
  simp (disch := omega) only [WA, ↓reduceIte, reduceEqDiff, reduceAdd, reduceMul, reduceSub, reduceLeDiff, reduceLT, reduceLE, reduceNeg, reduceEq, d3, g1, g2]
  simpa [he, c1, c2, c3] using hQ _ s.ext
theorem intactBox_c {x : Bx} {cs ds : List Value} {h : Heap} {Q : Value → Heap → Prop} (hx : GivH h x cs) (hy : GivH h x ds) (hn : Siz.siz x ≤ 1000000)
    (hQ : ∀ h', Ext h h' → Q (.bool true) h') : CallsV Tryz.prog 14 [.agg cs.toArray, .agg ds.toArray] h Q := by
  have hs : Siz.siz x = Siz.siz x.k + Siz.siz x.low + Siz.siz x.high := rfl
  obtain ⟨v1, v2, rfl, vf1, vf2, vf3⟩ := giv_Bx hx
  obtain ⟨u1, u2, rfl, uf1, uf2, uf3⟩ := giv_Bx hy
  refine CallsV.start Tryz.func14 rfl (by rw [Tryz.results14]) (by kernel_rfl) (by rw [Tryz.ntmps14]; simp) ?_
  have s := Sep.blk2 h [.int .i64 x.k, v1, v2] [.int .i64 x.k, u1, u2] 32 32 true true
  simp (disch := omega) only [WA, ↓reduceIte, reduceEqDiff, reduceAdd, reduceMul, reduceSub, reduceLeDiff, reduceLT, reduceLE, reduceNeg, reduceEq]
  refine .inl ⟨by kernel_rfl, ?_⟩; refine intactIntS_c (vf2.mono s.ext) (uf2.mono s.ext) (by omega) fun h2 E2 => ?_
  have s := s.mono E2
  have g1 := s.rd
  have g2 := s.tail.rd
  simp (disch := omega) only [WA, ↓reduceIte, reduceEqDiff, reduceAdd, reduceMul, reduceSub, reduceLeDiff, reduceLT, reduceLE, reduceNeg, reduceEq, g1, g2]
  refine .inl ⟨by kernel_rfl, ?_⟩; refine intactIntS_c (vf3.mono s.ext) (uf3.mono s.ext) (by omega) fun h3 E3 => ?_
  have s := s.mono E3
  have g1 := s.rd
  have g2 := s.tail.rd
  simp (disch := omega) only [WA, ↓reduceIte, reduceEqDiff, reduceAdd, reduceMul, reduceSub, reduceLeDiff, reduceLT, reduceLE, reduceNeg, reduceEq, g1, g2]
  exact hQ _ s.ext
end Go.Proofs

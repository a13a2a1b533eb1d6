/- The layer V and contracts of functions over it, or plain laws behind one statement (own work): MH2=H2,B1. Conditions: those told in each theorem. -/
import Derived.Test.YtlnephhhcofilaaGreatH1
set_option linter.all false
section
set_option linter.unusedSimpArgs false
set_option linter.unusedVariables false
set_option maxRecDepth 4000
namespace Go.Proofs
open Go Go.V
open Nat renaming reduceEqDiff → jA, reduceAdd → jB, reduceMul → jD, reduceSub → jE, reduceLeDiff → jF
open Int renaming reduceLT → jG, reduceLE → jH, reduceNeg → jI, reduceEq → jJ
structure Bx where
  k : Int
  low : (List Int)
  high : (List Int)
  deriving DecidableEq, Inhabited
instance : Rep Bx := Rep.iso (α := Int × (List Int) × (List Int)) fun x => (x.k, x.low, x.high)
theorem Bx.sz : Rep.sz Bx = 3 := rfl
instance : Giv Bx := Giv.iso (α := Int × (List Int) × (List Int)) (fun (x : Bx) => (x.k, x.low, x.high)) (⟨(-7000000000000000101), [(-7000000000000000101)], [(-7000000000000000101)]⟩ : Bx)
instance : Siz Bx := ⟨fun x => Siz.siz x.k + Siz.siz x.low + Siz.siz x.high⟩
theorem here_Bx {h : Heap} {x : Bx} {cs : List Value} (hr : Here h x cs) : ∃ v1 v2, cs = [.int .i64 x.k, v1, v2] ∧ inI64 x.k ∧ Row h x.low v1 ∧ Row h x.high v2 := by
  have hrp : Here (α := Int × (List Int) × (List Int)) h (x.k, x.low, x.high) _ := hr
  obtain ⟨c1, d1, rfl, q1, r1⟩ := here_pair hrp
  obtain ⟨rfl, f2⟩ := here_int q1
  obtain ⟨c3, d3, rfl, q3, r3⟩ := here_pair r1
  obtain ⟨w4, rfl, f4⟩ := here_list q3
  obtain ⟨w5, rfl, f5⟩ := here_list r3
  exact ⟨w4, w5, rfl, f2, f4, f5⟩
theorem giv_Bx {h : Heap} {x : Bx} {cs : List Value} (hr : GivH h x cs) : ∃ v1 v2, cs = [.int .i64 x.k, v1, v2] ∧ inI64 x.k ∧ GivH h x.low [v1] ∧ GivH h x.high [v2] := by
  have hrp : GivH (α := Int × (List Int) × (List Int)) h (x.k, x.low, x.high) _ := hr
  obtain ⟨c1, d1, rfl, q1, r1⟩ := giv_pair hrp
  obtain ⟨rfl, f2⟩ := giv_int q1
  obtain ⟨c3, d3, rfl, q3, r3⟩ := giv_pair r1
  obtain ⟨w4, rfl, f4⟩ := giv_list q3
  obtain ⟨w5, rfl, f5⟩ := giv_list r3
  exact ⟨w4, w5, rfl, f2, f4, f5⟩
theorem mk_Bx {h : Heap} {x : Bx} {v1 v2 : Value} (h1 : inI64 x.k) (h2 : Row h x.low v1) (h3 : Row h x.high v2) : Here h x [.int .i64 x.k, v1, v2] := (mk_pair (p := (x.k, (x.low, x.high))) (mk_int h1) (mk_pair (p := (x.low, x.high)) (mk_list h2) (mk_list h3)))
theorem at_Bx {h : Heap} {b off : Nat} {x : Bx} (hp : At h b off x) : ∃ v1 v2, getC h b off = some (.int .i64 x.k) ∧ getC h b (off + 1) = some (v1) ∧ getC h b (off + 2) = some (v2) ∧ inI64 x.k ∧ Row h x.low v1 ∧ Row h x.high v2 ∧ cellsAt h b off 3 = some [.int .i64 x.k, v1, v2] := by
  obtain ⟨cs, hc, hr⟩ := hp
  rw [Bx.sz] at hc
  obtain ⟨w1, w2, rfl, f1, f2, f3⟩ := here_Bx hr
  exact ⟨w1, w2, cellsAt_getC hc 0 (by decide), cellsAt_getC hc 1 (by decide), cellsAt_getC hc 2 (by decide), f1, f2, f3, hc⟩
theorem zero_Bx (h : Heap) : Rep.rep h (⟨0, [], []⟩ : Bx) [.int .i64 0, .slice none 0 0, .slice none 0 0] [] := (rep_pair0 (p := ((0, ([], [])) : (Int × ((List Int) × (List Int))))) (rep_int (h := h) ⟨by decide, by decide⟩) (rep_pair0 (p := (([], []) : ((List Int) × (List Int)))) (rep_nil (h := h)) (rep_nil (h := h))))
theorem szBox_c {x : Bx} {cs : List Value} {left : Int} {h : Heap} {Q : Value → Heap → Prop} (hx : Here h x cs) (h0 : 0 ≤ left) (h1 : left ≤ 1000000)
    (hQ : ∀ h', Ext h h' → Q (.int .i64 (szR left (Siz.siz x))) h') : CallsV Tryz.prog 8 [.agg cs.toArray, .int .i64 left] h Q := by
  have hs : Siz.siz x = Siz.siz x.k + Siz.siz x.low + Siz.siz x.high := rfl
  have zK : Siz.siz x.k = 0 := rfl
  obtain ⟨v1, v2, rfl, vf1, vf2, vf3⟩ := here_Bx hx
  refine CallsV.start Tryz.func8 rfl (by rw [Tryz.results8]) (by kernel_rfl) (by rw [Tryz.ntmps8]; simp) ?_
  have s := Sep.blk1 h [.int .i64 x.k, v1, v2] 25 true
  simp (disch := omega) only [WA, ↓reduceIte, jA, jB, jD, jE, jF, jG, jH, jI, jJ]
  refine .inl ⟨by kernel_rfl, ?_⟩; refine szIntS_c (vf2.mono s.ext) (by omega) (by omega) fun h1 E1 => ?_
  have s := s.mono E1
  have g := s.rd
  by_cases c1 : left < (Siz.siz x.low : Int)
  · rw [szR_lt c1]
    simp (disch := omega) only [WA, ↓reduceIte, jA, jB, jD, jE, jF, jG, jH, jI, jJ]
    rw [szR_lt (by omega)] at hQ
    exact hQ _ s.ext
  · rw [szR_ge c1]
    have c' : ¬ left - (Siz.siz x.low : Int) < 0 := by omega
    simp (disch := omega) only [WA, ↓reduceIte, jA, jB, jD, jE, jF, jG, jH, jI, jJ, c', g]
    refine .inl ⟨by kernel_rfl, ?_⟩; refine szIntS_c (vf3.mono s.ext) (by omega) (by omega) fun h2 E2 => ?_
    have s := s.mono E2
    have g := s.rd
    by_cases c2 : left - (Siz.siz x.low : Int) < (Siz.siz x.high : Int)
    · rw [szR_lt c2]
      simp (disch := omega) only [WA, ↓reduceIte, jA, jB, jD, jE, jF, jG, jH, jI, jJ]
      rw [szR_lt (by omega)] at hQ
      exact hQ _ s.ext
    · rw [szR_ge c2]
      have c' : ¬ left - (Siz.siz x.low : Int) - (Siz.siz x.high : Int) < 0 := by omega
      simp (disch := omega) only [WA, ↓reduceIte, jA, jB, jD, jE, jF, jG, jH, jI, jJ, c', g]
      rw [szR_ge (by omega)] at hQ
      have e : left - (Siz.siz x : Int) = left - (Siz.siz x.low : Int) - (Siz.siz x.high : Int) := by omega
      rw [e] at hQ
      exact hQ _ s.ext
theorem toBox_c {x : Bx} {b : Bool} {cs : List Value} {h : Heap} {Q : Value → Heap → Prop} (hx : Here h x cs) (hn : Siz.siz x ≤ 1000000)
    (hQ : ∀ cs' h', Sep h h' [givA b x cs'] → Q (.agg cs'.toArray) h') : CallsV Tryz.prog 11 [.agg cs.toArray, .bool b] h Q := by
  have hs : Siz.siz x = Siz.siz x.k + Siz.siz x.low + Siz.siz x.high := rfl
  obtain ⟨v1, v2, rfl, vf1, vf2, vf3⟩ := here_Bx hx
  refine CallsV.start Tryz.func11 rfl (by rw [Tryz.results11]) (by kernel_rfl) (by rw [Tryz.ntmps11]; simp) ?_
  simp (disch := omega) only [WA, ↓reduceIte, jA, jB, jD, jE, jF, jG, jH, jI, jJ]
  have s := Sep.blk3 h [.int .i64 x.k, v1, v2] [.int .i64 0, .slice none 0 0, .slice none 0 0] [.int .i64 x.k, .slice none 0 0, .slice none 0 0] 25 32 32 true true true
  refine .inl ⟨by kernel_rfl, ?_⟩; refine toIntS_c (vf2.mono s.ext) (by omega) fun w1 h1 s1 => ?_
  have l1 := s1.gRep.rowR.isRow.cells
  have s := s.add s1
  simp (disch := omega) only [WA, ↓reduceIte, jA, jB, jD, jE, jF, jG, jH, jI, jJ, l1]
  refine sep_store (s.pull 1 rfl) (by simp [l1]) fun h1' s => ?_
  have s := s.as (ds := [.int .i64 x.k, w1, .slice none 0 0]) (by simp [t_put, l1])
  have g := (s.pull 3 rfl).rd
  simp (disch := omega) only [WA, ↓reduceIte, jA, jB, jD, jE, jF, jG, jH, jI, jJ, g, l1]
  refine .inl ⟨by kernel_rfl, ?_⟩; refine toIntS_c (vf3.mono s.ext) (by omega) fun w2 h2 s2 => ?_
  have l2 := s2.gRep.rowR.isRow.cells
  have s := s.add s2
  simp (disch := omega) only [WA, ↓reduceIte, jA, jB, jD, jE, jF, jG, jH, jI, jJ, g, l1, l2]
  refine sep_store (s.pull 1 rfl) (by simp [l1, l2]) fun h2' s => ?_
  have s := s.as (ds := [.int .i64 x.k, w1, w2]) (by simp [t_put, l1, l2])
  have g := (s.pull 4 rfl).rd
  have ga := s.rdAll (n := 3) (by simp [l1, l2])
  simp (disch := omega) only [WA, ↓reduceIte, jA, jB, jD, jE, jF, jG, jH, jI, jJ, ga, l1, l2]
  refine sep_store (s.pull 3 rfl) (by simp [l1, l2]) fun hz s => ?_
  have s := s.as (ds := [.int .i64 x.k, w1, w2]) (by simp [t_put, l1, l2])
  have ga := s.rdAll (n := 3) (by simp [l1, l2])
  simp (disch := omega) only [WA, ↓reduceIte, jA, jB, jD, jE, jF, jG, jH, jI, jJ, ga]
  have s := s.tail.tail
  have s := Sep.gpair (Sep.swap s)
  have s := Sep.gpair (Sep.flat (x := givA b x.k _) s (rep_int vf1))
  exact hQ _ _ s.head
theorem intactBox_c {x : Bx} {cs ds : List Value} {h : Heap} {Q : Value → Heap → Prop} (hx : GivH h x cs) (hy : GivH h x ds) (hn : Siz.siz x ≤ 1000000)
    (hQ : ∀ h', Ext h h' → Q (.bool true) h') : CallsV Tryz.prog 14 [.agg cs.toArray, .agg ds.toArray] h Q := by
  have hs : Siz.siz x = Siz.siz x.k + Siz.siz x.low + Siz.siz x.high := rfl
  obtain ⟨v1, v2, rfl, vf1, vf2, vf3⟩ := giv_Bx hx
  obtain ⟨u1, u2, rfl, uf1, uf2, uf3⟩ := giv_Bx hy
  refine CallsV.start Tryz.func14 rfl (by rw [Tryz.results14]) (by kernel_rfl) (by rw [Tryz.ntmps14]; simp) ?_
  have s := Sep.blk2 h [.int .i64 x.k, v1, v2] [.int .i64 x.k, u1, u2] 32 32 true true
  simp (disch := omega) only [WA, ↓reduceIte, jA, jB, jD, jE, jF, jG, jH, jI, jJ]
  refine .inl ⟨by kernel_rfl, ?_⟩; refine intactIntS_c (vf2.mono s.ext) (uf2.mono s.ext) (by omega) fun h2 E2 => ?_
  have s := s.mono E2
  have g1 := s.rd
  have g2 := s.tail.rd
  simp (disch := omega) only [WA, ↓reduceIte, jA, jB, jD, jE, jF, jG, jH, jI, jJ, g1, g2]
  refine .inl ⟨by kernel_rfl, ?_⟩; refine intactIntS_c (vf3.mono s.ext) (uf3.mono s.ext) (by omega) fun h3 E3 => ?_
  have s := s.mono E3
  have g1 := s.rd
  have g2 := s.tail.rd
  simp (disch := omega) only [WA, ↓reduceIte, jA, jB, jD, jE, jF, jG, jH, jI, jJ, g1, g2]
  exact hQ _ s.ext
end Go.Proofs
end

section
set_option linter.unusedSimpArgs false
set_option linter.unusedVariables false
set_option maxRecDepth 4000
namespace Go.Proofs
open Go Go.V
open Nat renaming reduceEqDiff → jA, reduceAdd → jB, reduceMul → jD, reduceSub → jE, reduceLeDiff → jF
open Int renaming reduceLT → jG, reduceLE → jH, reduceNeg → jI, reduceEq → jJ

def pairOk (m : Int) (p : Int × Int) : Bool := decide (-m ≤ p.1 ∧ p.1 < p.2 ∧ p.2 ≤ m)
def pairOdd (p : Int × Int) : Bool := decide (¬ Int.tmod p.1 2 = 0) || decide (¬ Int.tmod p.2 2 = 0)
def mostM (k : Int) : Int := 8 * 2 ^ k.toNat
/-- Is a box valid? -/
def boxM (x : Bx) : Bool := decide (0 ≤ x.k ∧ x.k ≤ 8) && decide (1 ≤ (x.low.length : Int) ∧ (x.low.length : Int) ≤ 3) && decide (x.high.length = x.low.length) &&
  ((x.low.zip x.high).all (pairOk (mostM x.k)) && (decide (x.k = 0) || (x.low.zip x.high).any pairOdd))
theorem mostM_le {k : Int} (h : 0 ≤ k ∧ k ≤ 8) : 8 ≤ mostM k ∧ mostM k ≤ 2048 := by
  obtain ⟨n, rfl⟩ := Int.eq_ofNat_of_zero_le h.1
  have : n = 0 ∨ n = 1 ∨ n = 2 ∨ n = 3 ∨ n = 4 ∨ n = 5 ∨ n = 6 ∨ n = 7 ∨ n = 8 := by omega
  rcases this with rfl | rfl | rfl | rfl | rfl | rfl | rfl | rfl | rfl <;> decide
theorem mostM_wrap {k : Int} (h : 0 ≤ k ∧ k ≤ 8) : IntKind.wrap .i64 (8 * 2 ^ min k.toNat 64) = mostM k := by
  have hm := mostM_le h
  rw [Nat.min_eq_left (by omega)]
  exact wrap_in _ (by unfold mostM at hm; omega)

theorem isBox_c {x : Bx} {b off : Nat} {h : Heap} {Q : Value → Heap → Prop} (hp : At h b off x) (hQ : Q (.bool (boxM x)) h) :
    CallsV Tryz.prog 77 [.pointer (some ⟨b, off, none⟩)] h Q := by
  obtain ⟨v1, v2, g0, g1, g2, f1, r1, r2, _⟩ := at_Bx hp
  refine CallsV.start Tryz.func77 rfl (by rw [Tryz.results77]) (by kernel_rfl) (by rw [Tryz.ntmps77]; simp) ?_
  unfold boxM at hQ
  have hle := r1.le
  have hle2 := r2.le
  simp (disch := omega) only [WA, ↓reduceIte, jA, jB, jD, jE, jF, jG, jH, jI, jJ]
  refine draw_id (by kernel_rfl) ?_
  simp (disch := omega) only [WA, ↓reduceIte, jA, jB, jD, jE, jF, jG, jH, jI, jJ, g0]
  refine .inl ⟨by kernel_rfl, ?_⟩; refine inside_c ?_
  by_cases c1 : ¬ (0 ≤ x.k ∧ x.k ≤ 8)
  · have d1 := decide_eq_false c1
    simp (disch := omega) only [WA, ↓reduceIte, jA, jB, jD, jE, jF, jG, jH, jI, jJ, d1, g0]
    simpa [c1] using hQ
  have c1 := Decidable.not_not.1 c1
  have d1 := decide_eq_true c1
  simp (disch := omega) only [WA, ↓reduceIte, jA, jB, jD, jE, jF, jG, jH, jI, jJ, d1, g0, g1, r1.isRow.len]
  refine .inl ⟨by kernel_rfl, ?_⟩; refine inside_c ?_
  by_cases c2 : ¬ (1 ≤ (x.low.length : Int) ∧ (x.low.length : Int) ≤ 3)
  · have d2 := decide_eq_false c2
    simp (disch := omega) only [WA, ↓reduceIte, jA, jB, jD, jE, jF, jG, jH, jI, jJ, d2, g0, g1]
    simpa [c2] using hQ
  have c2 := Decidable.not_not.1 c2
  have d2 := decide_eq_true c2
  simp (disch := omega) only [WA, ↓reduceIte, jA, jB, jD, jE, jF, jG, jH, jI, jJ, d2, g0, g1, g2, r1.isRow.len, r2.isRow.len]
  by_cases c3 : ¬ x.high.length = x.low.length
  · have c3' : ¬ (x.high.length : Int) = (x.low.length : Int) := by omega
    simp (disch := omega) only [WA, ↓reduceIte, jA, jB, jD, jE, jF, jG, jH, jI, jJ, c3']
    simpa [c3] using hQ
  have c3 := Decidable.not_not.1 c3
  have c3' : (x.high.length : Int) = (x.low.length : Int) := by omega
  simp (disch := omega) only [WA, ↓reduceIte, jA, jB, jD, jE, jF, jG, jH, jI, jJ, c3']
  refine draw_id (by kernel_rfl) ?_
  have k0 : ¬ x.k < 0 := by omega
  have hm := mostM_le c1
  have hbits : IntKind.i64.bits = 64 := rfl
  simp (disch := omega) only [WA, ↓reduceIte, jA, jB, jD, jE, jF, jG, jH, jI, jJ, g0, g1, k0, r1.isRow.len, hbits, mostM_wrap c1]
  rw [d1, d2, decide_eq_true c3] at hQ
  have hzl : (x.low.zip x.high).length = x.low.length := by rw [List.length_zip]; omega
  refine loop_rule (fun n e h' => ∃ (i : Nat), e 0 = .pointer (some ⟨b, off, none⟩) ∧ e 48 = v1 ∧ e 49 = .int .i64 x.low.length ∧ e 50 = .int .i64 i ∧ e 3 = .int .i64 (mostM x.k) ∧
    e 4 = .bool (decide (x.k = 0) || ((x.low.zip x.high).take i).any pairOdd) ∧ i ≤ x.low.length ∧ n = x.low.length - i ∧ h' = h ∧ ((x.low.zip x.high).take i).all (pairOk (mostM x.k)) = true) ?_ x.low.length _ _
    ⟨0, rfl, rfl, rfl, rfl, rfl, by simp [upd], Nat.zero_le _, rfl, rfl, by simp⟩
  rintro n e h' ⟨i, e0, e48, e49, e50, e3, e4, hi, rfl, rfl, hall⟩
  simp (disch := omega) only [WA, ↓reduceIte, jA, jB, jD, jE, jF, jG, jH, jI, jJ, e48, e49, e50]
  by_cases hlt : i < x.low.length
  · obtain ⟨y, hy⟩ := get_some hlt
    obtain ⟨z, hz⟩ := get_some (show i < x.high.length by omega)
    have hyz := zip_get hy hz
    obtain ⟨y1, y2⟩ := row_int r1 hy
    obtain ⟨z1, z2⟩ := row_int r2 hz
    have q1 : (i : Int) < (x.low.length : Int) := by omega
    unfold inI64 at y2 z2
    simp (disch := omega) only [WA, ↓reduceIte, jA, jB, jD, jE, jF, jG, jH, jI, jJ, e0, e48, e49, e50, e3, e4, q1, r1.isRow.ix, y1, wrap_in]
    refine .inl ⟨by kernel_rfl, ?_⟩; refine inside_c ?_
    by_cases c5 : ¬ (0 - mostM x.k ≤ y ∧ y ≤ mostM x.k)
    · have d5 := decide_eq_false c5
      simp (disch := omega) only [WA, ↓reduceIte, jA, jB, jD, jE, jF, jG, jH, jI, jJ, d5]
      have hf : pairOk (mostM x.k) (y, z) = false := by simp only [pairOk, decide_eq_false_iff_not]; omega
      rw [all_false hyz hf] at hQ
      exact hQ
    have c5 := Decidable.not_not.1 c5
    have d5 := decide_eq_true c5
    simp (disch := omega) only [WA, ↓reduceIte, jA, jB, jD, jE, jF, jG, jH, jI, jJ, d5, e0, g2, r2.isRow.ix, z1, e3, wrap_in]
    refine .inl ⟨by kernel_rfl, ?_⟩; refine inside_c ?_
    by_cases c6 : ¬ (y + 1 ≤ z ∧ z ≤ mostM x.k)
    · have d6 := decide_eq_false c6
      simp (disch := omega) only [WA, ↓reduceIte, jA, jB, jD, jE, jF, jG, jH, jI, jJ, d6]
      have hf : pairOk (mostM x.k) (y, z) = false := by simp only [pairOk, decide_eq_false_iff_not]; omega
      rw [all_false hyz hf] at hQ
      exact hQ
    have c6 := Decidable.not_not.1 c6
    have d6 := decide_eq_true c6
    have hall' : ((x.low.zip x.high).take (i + 1)).all (pairOk (mostM x.k)) = true := by
      rw [all_take _ hyz, hall, Bool.true_and]; simp only [pairOk, decide_eq_true_eq]; omega
    have hany := any_take pairOdd hyz
    obtain ⟨o, ho⟩ : ∃ o, (decide (x.k = 0) || ((x.low.zip x.high).take i).any pairOdd) = o := ⟨_, rfl⟩
    rw [ho] at e4
    cases o with
    | true =>
      simp (disch := omega) only [WA, ↓reduceIte, jA, jB, jD, jE, jF, jG, jH, jI, jJ, d6, e0, e48, e49, e50, e3, e4, wrap_in]
      exact ⟨_, by omega, i + 1, by simp, by rw [hany, ← Bool.or_assoc, ho]; simp, by omega, rfl, hall'⟩
    | false =>
      by_cases c7 : Int.tmod y 2 = 0
      · simp (disch := omega) only [WA, ↓reduceIte, jA, jB, jD, jE, jF, jG, jH, jI, jJ, d6, e4, c7, e0, g2, r2.isRow.ix, z1]
        by_cases c8 : Int.tmod z 2 = 0
        · simp (disch := omega) only [WA, ↓reduceIte, jA, jB, jD, jE, jF, jG, jH, jI, jJ, c8, e0, e48, e49, e50, e3, wrap_in]
          exact ⟨_, by omega, i + 1, by simp, by rw [hany, ← Bool.or_assoc, ho]; simp [pairOdd, c7, c8], by omega, rfl, hall'⟩
        · simp (disch := omega) only [WA, ↓reduceIte, jA, jB, jD, jE, jF, jG, jH, jI, jJ, c8, e0, e48, e49, e50, e3, wrap_in]
          exact ⟨_, by omega, i + 1, by simp, by rw [hany, ← Bool.or_assoc, ho]; simp [pairOdd, c7, c8], by omega, rfl, hall'⟩
      · simp (disch := omega) only [WA, ↓reduceIte, jA, jB, jD, jE, jF, jG, jH, jI, jJ, d6, e4, c7, e0, e48, e49, e50, e3, wrap_in]
        exact ⟨_, by omega, i + 1, by simp, by rw [hany, ← Bool.or_assoc, ho]; simp [pairOdd, c7], by omega, rfl, hall'⟩
  · obtain rfl : i = x.low.length := by omega
    have q1 : ¬ (x.low.length : Int) < (x.low.length : Int) := by omega
    simp (disch := omega) only [WA, ↓reduceIte, jA, jB, jD, jE, jF, jG, jH, jI, jJ, e48, e49, e50, e4, q1]
    rw [List.take_of_length_le (by omega)] at hall ⊢
    rw [hall] at hQ
    simpa using hQ

theorem dyPower_c {k : Int} {h : Heap} {Q : Value → Heap → Prop} (hk : 0 ≤ k ∧ k ≤ 8) (hQ : Q (.int .i64 (2 ^ k.toNat)) h) : CallsV Tryz.prog 75 [.int .i64 k] h Q := by
  refine CallsV.start Tryz.func75 rfl (by rw [Tryz.results75]) (by kernel_rfl) (by rw [Tryz.ntmps75]; simp) ?_
  have hbits : IntKind.i64.bits = 64 := rfl
  have k0 : ¬ k < 0 := by omega
  simp (disch := omega) only [WA, ↓reduceIte, jA, jB, jD, jE, jF, jG, jH, jI, jJ, wrapu_in, k0, hbits]
  have e : IntKind.i64.wrap (1 * 2 ^ min k.toNat 64) = 2 ^ k.toNat := by
    have := mostM_le hk
    unfold mostM at this
    rw [Nat.min_eq_left (by omega), Int.one_mul]
    exact wrap_in _ (by omega)
  rw [e]
  exact hQ

theorem bxGood_c {x : Bx} {cs : List Value} {h : Heap} {Q : Value → Heap → Prop} (hx : Here h x cs) (hQ : ∀ h', Ext h h' → Q (.bool (boxM x)) h') :
    CallsV Tryz.prog 70 [.agg cs.toArray] h Q := by
  obtain ⟨v1, v2, rfl, f1, r1, r2⟩ := here_Bx hx
  refine CallsV.start Tryz.func70 rfl (by rw [Tryz.results70]) (by kernel_rfl) (by rw [Tryz.ntmps70]; simp) ?_
  unfold boxM at hQ
  have hle := r1.le
  have hle2 := r2.le
  have E := Ext.one h (some ⟨[.int .i64 x.k, v1, v2], 32, false, true⟩)
  simp (disch := omega) only [WA, ↓reduceIte, jA, jB, jD, jE, jF, jG, jH, jI, jJ]
  refine .inl ⟨by kernel_rfl, ?_⟩; refine l1In_c ?_
  by_cases c1 : ¬ (0 ≤ x.k ∧ x.k ≤ 8)
  · have d1 := decide_eq_false c1
    simp (disch := omega) only [WA, ↓reduceIte, jA, jB, jD, jE, jF, jG, jH, jI, jJ, d1]
    simpa [c1] using hQ _ E
  have c1 := Decidable.not_not.1 c1
  have d1 := decide_eq_true c1
  simp (disch := omega) only [WA, ↓reduceIte, jA, jB, jD, jE, jF, jG, jH, jI, jJ, d1, r1.isRow.len]
  refine .inl ⟨by kernel_rfl, ?_⟩; refine l1In_c ?_
  by_cases c2 : ¬ (1 ≤ (x.low.length : Int) ∧ (x.low.length : Int) ≤ 3)
  · have d2 := decide_eq_false c2
    simp (disch := omega) only [WA, ↓reduceIte, jA, jB, jD, jE, jF, jG, jH, jI, jJ, d2]
    simpa [c2] using hQ _ E
  have c2 := Decidable.not_not.1 c2
  have d2 := decide_eq_true c2
  simp (disch := omega) only [WA, ↓reduceIte, jA, jB, jD, jE, jF, jG, jH, jI, jJ, d2, r1.isRow.len, r2.isRow.len]
  by_cases c3 : ¬ x.high.length = x.low.length
  · have c3' : ¬ (x.high.length : Int) = (x.low.length : Int) := by omega
    simp (disch := omega) only [WA, ↓reduceIte, jA, jB, jD, jE, jF, jG, jH, jI, jJ, c3']
    simpa [c3] using hQ _ E
  have c3 := Decidable.not_not.1 c3
  have c3' : (x.high.length : Int) = (x.low.length : Int) := by omega
  simp (disch := omega) only [WA, ↓reduceIte, jA, jB, jD, jE, jF, jG, jH, jI, jJ, c3']
  refine .inl ⟨by kernel_rfl, ?_⟩; refine dyPower_c c1 ?_
  have hm := mostM_le c1
  have hpw : IntKind.i64.wrap (8 * 2 ^ x.k.toNat) = mostM x.k := wrap_in _ (by unfold mostM at hm; omega)
  simp (disch := omega) only [WA, ↓reduceIte, jA, jB, jD, jE, jF, jG, jH, jI, jJ, hpw, r1.isRow.len]
  rw [d1, d2, decide_eq_true c3] at hQ
  have hzl : (x.low.zip x.high).length = x.low.length := by rw [List.length_zip]; omega
  refine loop_rule (fun n e h' => ∃ (i : Nat), e 1 = .pointer (some ⟨h.length, 0, none⟩) ∧ e 36 = v1 ∧ e 37 = .int .i64 x.low.length ∧ e 38 = .int .i64 i ∧ e 3 = .int .i64 (mostM x.k) ∧
    e 4 = .bool (decide (x.k = 0) || ((x.low.zip x.high).take i).any pairOdd) ∧ i ≤ x.low.length ∧ n = x.low.length - i ∧ Sep h h' [blkA h.length [.int .i64 x.k, v1, v2] 32] ∧ ((x.low.zip x.high).take i).all (pairOk (mostM x.k)) = true) ?_ x.low.length _ _
    ⟨0, rfl, rfl, rfl, rfl, rfl, by simp [upd], Nat.zero_le _, rfl, Sep.blk1 _ _ _ _, by simp⟩
  rintro n e h' ⟨i, e1, e36, e37, e38, e3, e4, hi, rfl, s, hall⟩
  have g := s.rd
  have r1 := r1.mono s.ext
  have r2 := r2.mono s.ext
  simp (disch := omega) only [WA, ↓reduceIte, jA, jB, jD, jE, jF, jG, jH, jI, jJ, e36, e37, e38]
  by_cases hlt : i < x.low.length
  · obtain ⟨y, hy⟩ := get_some hlt
    obtain ⟨z, hz⟩ := get_some (show i < x.high.length by omega)
    have hyz := zip_get hy hz
    obtain ⟨y1, y2⟩ := row_int r1 hy
    obtain ⟨z1, z2⟩ := row_int r2 hz
    have q1 : (i : Int) < (x.low.length : Int) := by omega
    unfold inI64 at y2 z2
    simp (disch := omega) only [WA, ↓reduceIte, jA, jB, jD, jE, jF, jG, jH, jI, jJ, e1, e36, e37, e38, e3, e4, q1, r1.isRow.ix, y1, wrap_in, g, r2.isRow.ix, z1]
    refine .inl ⟨by kernel_rfl, ?_⟩; refine l1In_c ?_
    by_cases c5 : ¬ (0 - mostM x.k ≤ y ∧ y ≤ mostM x.k)
    · have d5 := decide_eq_false c5
      simp (disch := omega) only [WA, ↓reduceIte, jA, jB, jD, jE, jF, jG, jH, jI, jJ, d5]
      have hf : pairOk (mostM x.k) (y, z) = false := by simp only [pairOk, decide_eq_false_iff_not]; omega
      rw [all_false hyz hf] at hQ
      exact hQ _ s.ext
    have c5 := Decidable.not_not.1 c5
    have d5 := decide_eq_true c5
    simp (disch := omega) only [WA, ↓reduceIte, jA, jB, jD, jE, jF, jG, jH, jI, jJ, d5, e3, wrap_in]
    refine .inl ⟨by kernel_rfl, ?_⟩; refine l1In_c ?_
    by_cases c6 : ¬ (0 - mostM x.k ≤ z ∧ z ≤ mostM x.k)
    · have d6 := decide_eq_false c6
      simp (disch := omega) only [WA, ↓reduceIte, jA, jB, jD, jE, jF, jG, jH, jI, jJ, d6]
      have hf : pairOk (mostM x.k) (y, z) = false := by simp only [pairOk, decide_eq_false_iff_not]; omega
      rw [all_false hyz hf] at hQ
      exact hQ _ s.ext
    have c6 := Decidable.not_not.1 c6
    have d6 := decide_eq_true c6
    by_cases c9 : z ≤ y
    · have c9' : y ≥ z := c9
      simp (disch := omega) only [WA, ↓reduceIte, jA, jB, jD, jE, jF, jG, jH, jI, jJ, d6, c9]
      have hf : pairOk (mostM x.k) (y, z) = false := by simp only [pairOk, decide_eq_false_iff_not]; omega
      rw [all_false hyz hf] at hQ
      exact hQ _ s.ext
    have hall' : ((x.low.zip x.high).take (i + 1)).all (pairOk (mostM x.k)) = true := by
      rw [all_take _ hyz, hall, Bool.true_and]; simp only [pairOk, decide_eq_true_eq]; omega
    have hany := any_take pairOdd hyz
    obtain ⟨o, ho⟩ : ∃ o, (decide (x.k = 0) || ((x.low.zip x.high).take i).any pairOdd) = o := ⟨_, rfl⟩
    rw [ho] at e4
    cases o with
    | true =>
      simp (disch := omega) only [WA, ↓reduceIte, jA, jB, jD, jE, jF, jG, jH, jI, jJ, d6, c9, e1, e36, e37, e38, e3, e4, wrap_in]
      exact ⟨_, by omega, i + 1, by simp, by rw [hany, ← Bool.or_assoc, ho]; simp, by omega, rfl, s, hall'⟩
    | false =>
      by_cases c7 : Int.tmod y 2 = 0
      · simp (disch := omega) only [WA, ↓reduceIte, jA, jB, jD, jE, jF, jG, jH, jI, jJ, d6, c9, e4, c7]
        by_cases c8 : Int.tmod z 2 = 0
        · simp (disch := omega) only [WA, ↓reduceIte, jA, jB, jD, jE, jF, jG, jH, jI, jJ, c8, e1, e36, e37, e38, e3, wrap_in]
          exact ⟨_, by omega, i + 1, by simp, by rw [hany, ← Bool.or_assoc, ho]; simp [pairOdd, c7, c8], by omega, rfl, s, hall'⟩
        · simp (disch := omega) only [WA, ↓reduceIte, jA, jB, jD, jE, jF, jG, jH, jI, jJ, c8, e1, e36, e37, e38, e3, wrap_in]
          exact ⟨_, by omega, i + 1, by simp, by rw [hany, ← Bool.or_assoc, ho]; simp [pairOdd, c7, c8], by omega, rfl, s, hall'⟩
      · simp (disch := omega) only [WA, ↓reduceIte, jA, jB, jD, jE, jF, jG, jH, jI, jJ, d6, c9, e4, c7, e1, e36, e37, e38, e3, wrap_in]
        exact ⟨_, by omega, i + 1, by simp, by rw [hany, ← Bool.or_assoc, ho]; simp [pairOdd, c7], by omega, rfl, s, hall'⟩
  · obtain rfl : i = x.low.length := by omega
    have q1 : ¬ (x.low.length : Int) < (x.low.length : Int) := by omega
    simp (disch := omega) only [WA, ↓reduceIte, jA, jB, jD, jE, jF, jG, jH, jI, jJ, e36, e37, e38, e4, q1]
    rw [List.take_of_length_le (by omega)] at hall ⊢
    rw [hall] at hQ
    simpa using hQ _ s.ext
end Go.Proofs
end

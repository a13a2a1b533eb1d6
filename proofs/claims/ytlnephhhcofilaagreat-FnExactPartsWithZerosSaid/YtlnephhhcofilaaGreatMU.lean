/- The layer V and contracts of functions over it, or plain laws behind one statement (own work): MU=IU,IV. Conditions: those told in each theorem. -/
import Derived.Test.YtlnephhhcofilaaGreatIT
import Derived.Test.YtlnephhhcofilaaGreatMH2
set_option linter.all false
section
set_option linter.unusedSimpArgs false
set_option linter.unusedVariables false
set_option maxRecDepth 4000
namespace Go.Proofs
open Go Go.V
open Nat renaming reduceEqDiff → jA, reduceAdd → jB, reduceMul → jD, reduceSub → jE, reduceLeDiff → jF
open Int renaming reduceLT → jG, reduceLE → jH, reduceNeg → jI, reduceEq → jJ
def degM (p : List Tm) (k : Nat) : Int := p.foldl (fun m t => max m (exM t k)) (-1)
theorem foldl_max (k : Nat) : ∀ (p : List Tm) (m : Int), 0 < p.foldl (fun m t => max m (exM t k)) m ↔ 0 < m ∨ ∃ t ∈ p, 0 < exM t k
  | [], m => by simp
  | t :: p, m => by
    rw [List.foldl_cons, foldl_max k p]
    simp only [List.mem_cons, exists_eq_or_imp]
    constructor
    · rintro (h | h)
      · by_cases c : 0 < m
        · exact .inl c
        · exact .inr (.inl (by omega))
      · exact .inr (.inr h)
    · rintro (h | h | h)
      · exact .inl (by omega)
      · exact .inl (by omega)
      · exact .inr h
theorem degM_pos {p : List Tm} {k : Nat} : 0 < degM p k ↔ ∃ t ∈ p, 0 < exM t k := by
  unfold degM
  rw [foldl_max]
  constructor
  · rintro (h | h)
    · omega
    · exact h
  · exact .inr
theorem poDegreeIn_c {p : List Tm} {k : Nat} {v : Value} {h : Heap} {Q : Value → Heap → Prop} (rp : Row h p v) (hQ : ∀ h', Ext h h' → Q (.int .i64 (degM p k)) h') : CallsV Tryz.prog 82 [v, .int .i64 k] h Q := by
  refine CallsV.start Tryz.func82 rfl (by rw [Tryz.results82]) (by kernel_rfl) (by rw [Tryz.ntmps82]; simp) ?_
  have hle := rp.le
  simp (disch := omega) only [WA, ↓reduceIte, jA, jB, jD, jE, jF, jG, jH, jI, jJ, rp.isRow.len]
  refine loop_rule (fun m e h' => ∃ (i : Nat) (x : Int), e 1 = .int .i64 k ∧ e 5 = .int .i64 x ∧ e 8 = v ∧ e 9 = .int .i64 p.length ∧ e 10 = .int .i64 i ∧ i ≤ p.length ∧ m = p.length - i ∧ (p.drop i).foldl (fun m t => max m (exM t k)) x = degM p k ∧ Ext h h') ?_ p.length _ _
    ⟨0, -1, rfl, rfl, rfl, rfl, rfl, by omega, by omega, rfl, .refl h⟩
  rintro m e h1 ⟨i, x, e1, e5, e8, e9, e10, hi, rfl, hx, E⟩
  simp (disch := omega) only [WA, ↓reduceIte, jA, jB, jD, jE, jF, jG, jH, jI, jJ, e9, e10]
  by_cases c : i < p.length
  · obtain ⟨t, ht⟩ := get_some c
    have c1 : (i : Int) < (p.length : Int) := by omega
    have x3 := row_tm (rp.mono E) ht
    have s := (Sep.nil E).newBlk (tmC t) 59 true
    simp (disch := omega) only [WA, ↓reduceIte, jA, jB, jD, jE, jF, jG, jH, jI, jJ, c1, e1, e5, e8, e10, rp.isRow.ix, x3]
    refine .inl ⟨by kernel_rfl, ?_⟩; refine poPower_c (k := k) fun h2 E2 => ?_
    have s := s.mono E2
    simp (disch := omega) only [WA, ↓reduceIte, jA, jB, jD, jE, jF, jG, jH, jI, jJ, e5]
    refine .inl ⟨by kernel_rfl, ?_⟩; refine l1Most_c ?_
    simp (disch := omega) only [WA, ↓reduceIte, jA, jB, jD, jE, jF, jG, jH, jI, jJ, e10, wrap_in]
    refine ⟨_, by omega, i + 1, max x (exM t k), e1, rfl, e8, e9, by simp, by omega, rfl, ?_, s.ext⟩
    obtain ⟨hlt, he⟩ := List.getElem?_eq_some_iff.1 ht
    rw [List.drop_eq_getElem_cons hlt, he] at hx
    exact hx
  · obtain rfl : i = p.length := by omega
    have c1 : ¬ (p.length : Int) < (p.length : Int) := by omega
    rw [List.drop_length] at hx
    have hx : x = degM p k := hx
    rw [← hx] at hQ
    simp (disch := omega) only [WA, ↓reduceIte, jA, jB, jD, jE, jF, jG, jH, jI, jJ, c1, e5]
    exact hQ _ E
def sysB (S : List (List Tm)) : Bool := S.all (fun p => polyB p && needB S.length p) && decide (1 ≤ (S.length : Int) ∧ (S.length : Int) ≤ 3)
theorem sys_bad {S : List (List Tm)} {i : Nat} {p : List Tm} (hp : S[i]? = some p) (h : (polyB p && needB S.length p) = false) : sysB S = false := by
  unfold sysB
  rw [Bool.and_eq_false_iff]
  left
  rw [Bool.eq_false_iff]
  intro hall
  have := List.all_eq_true.1 hall p (List.mem_of_getElem? hp)
  rw [h] at this
  cases this
theorem isSystem_c {S : List (List Tm)} {v : Value} {h : Heap} {Q : Value → Heap → Prop} (rS : Row h S v) (hQ : ∀ h', Ext h h' → Q (.bool (sysB S)) h') : CallsV Tryz.prog 76 [v] h Q := by
  refine CallsV.start Tryz.func76 rfl (by rw [Tryz.results76]) (by kernel_rfl) (by rw [Tryz.ntmps76]; simp) ?_
  have hle := rS.le
  simp (disch := omega) only [WA, ↓reduceIte, jA, jB, jD, jE, jF, jG, jH, jI, jJ, rS.isRow.len]
  refine loop_rule (fun m e h' => ∃ (i : Nat), e 0 = v ∧ e 5 = v ∧ e 6 = .int .i64 S.length ∧ e 7 = .int .i64 i ∧ i ≤ S.length ∧ m = S.length - i ∧ (S.take i).all (fun p => polyB p && needB S.length p) = true ∧ Ext h h') ?_ S.length _ _
    ⟨0, rfl, rfl, rfl, rfl, by omega, by omega, rfl, .refl h⟩
  rintro m e h1 ⟨i, e0, e5, e6, e7, hi, rfl, hall, E⟩
  simp (disch := omega) only [WA, ↓reduceIte, jA, jB, jD, jE, jF, jG, jH, jI, jJ, e6, e7]
  by_cases c : i < S.length
  · obtain ⟨p, hp⟩ := get_some c
    have c1 : (i : Int) < (S.length : Int) := by omega
    obtain ⟨w, x3, rw1⟩ := row_list (rS.mono E) hp
    simp (disch := omega) only [WA, ↓reduceIte, jA, jB, jD, jE, jF, jG, jH, jI, jJ, c1, e5, e7, rS.isRow.ix, x3]
    refine .inl ⟨by kernel_rfl, ?_⟩; refine isPoly_c rw1 fun h2 E2 => ?_
    cases hb : polyB p with
    | false =>
      rw [sys_bad hp (by rw [hb]; rfl)] at hQ
      simp (disch := omega) only [WA, ↓reduceIte, jA, jB, jD, jE, jF, jG, jH, jI, jJ]
      exact hQ _ (E.trans E2)
    | true =>
      simp (disch := omega) only [WA, ↓reduceIte, jA, jB, jD, jE, jF, jG, jH, jI, jJ, e0, rS.isRow.len]
      refine .inl ⟨by kernel_rfl, ?_⟩; refine needsAtMost_c (rw1.mono E2) fun h3 E3 => ?_
      cases hn : needB S.length p with
      | false =>
        rw [sys_bad hp (by rw [hb, hn]; rfl)] at hQ
        simp (disch := omega) only [WA, ↓reduceIte, jA, jB, jD, jE, jF, jG, jH, jI, jJ]
        exact hQ _ ((E.trans E2).trans E3)
      | true =>
        simp (disch := omega) only [WA, ↓reduceIte, jA, jB, jD, jE, jF, jG, jH, jI, jJ, e7, wrap_in]
        refine ⟨_, by omega, i + 1, e0, e5, e6, by simp, by omega, rfl, ?_, (E.trans E2).trans E3⟩
        rw [List.take_add_one, hp, List.all_append, hall]
        simp [hb, hn]
  · obtain rfl : i = S.length := by omega
    have c1 : ¬ (S.length : Int) < (S.length : Int) := by omega
    rw [List.take_length] at hall
    unfold sysB at hQ
    rw [hall, Bool.true_and] at hQ
    simp (disch := omega) only [WA, ↓reduceIte, jA, jB, jD, jE, jF, jG, jH, jI, jJ, c1, e0, rS.isRow.len]
    refine .inl ⟨by kernel_rfl, ?_⟩; refine inside_c ?_
    simp (disch := omega) only [WA, ↓reduceIte, jA, jB, jD, jE, jF, jG, jH, jI, jJ]
    exact hQ _ E
theorem poSystem_c {S : List (List Tm)} {v : Value} {h : Heap} {Q : Value → Heap → Prop} (rS : Row h S v) (hQ : ∀ h', Ext h h' → Q (.bool (sysB S)) h') : CallsV Tryz.prog 62 [v] h Q := by
  refine CallsV.start Tryz.func62 rfl (by rw [Tryz.results62]) (by kernel_rfl) (by rw [Tryz.ntmps62]; simp) ?_
  have hle := rS.le
  simp (disch := omega) only [WA, ↓reduceIte, jA, jB, jD, jE, jF, jG, jH, jI, jJ, rS.isRow.len]
  refine loop_rule (fun m e h' => ∃ (i : Nat), e 0 = v ∧ e 6 = v ∧ e 7 = .int .i64 S.length ∧ e 8 = .int .i64 i ∧ i ≤ S.length ∧ m = S.length - i ∧ (S.take i).all (fun p => polyB p && needB S.length p) = true ∧ Ext h h') ?_ S.length _ _
    ⟨0, rfl, rfl, rfl, rfl, by omega, by omega, rfl, .refl h⟩
  rintro m e h1 ⟨i, e0, e6, e7, e8, hi, rfl, hall, E⟩
  simp (disch := omega) only [WA, ↓reduceIte, jA, jB, jD, jE, jF, jG, jH, jI, jJ, e7, e8]
  by_cases c : i < S.length
  · obtain ⟨p, hp⟩ := get_some c
    have c1 : (i : Int) < (S.length : Int) := by omega
    obtain ⟨w, x3, rw1⟩ := row_list (rS.mono E) hp
    simp (disch := omega) only [WA, ↓reduceIte, jA, jB, jD, jE, jF, jG, jH, jI, jJ, c1, e6, e8, rS.isRow.ix, x3]
    refine .inl ⟨by kernel_rfl, ?_⟩; refine poGood_c rw1 fun h2 E2 => ?_
    cases hb : polyB p with
    | false =>
      rw [sys_bad hp (by rw [hb]; rfl)] at hQ
      simp (disch := omega) only [WA, ↓reduceIte, jA, jB, jD, jE, jF, jG, jH, jI, jJ]
      exact hQ _ (E.trans E2)
    | true =>
      simp (disch := omega) only [WA, ↓reduceIte, jA, jB, jD, jE, jF, jG, jH, jI, jJ, e0, rS.isRow.len]
      refine loop_rule (fun m e h' => ∃ (k : Nat), e 0 = v ∧ e 6 = v ∧ e 7 = .int .i64 S.length ∧ e 8 = .int .i64 i ∧ e 4 = w ∧ e 5 = .int .i64 k ∧ S.length ≤ k ∧ m = 3 - k ∧ (∀ u, S.length ≤ u → u < k → u < 3 → ¬ 0 < degM p u) ∧ Ext h1 h') ?_ (3 - S.length) _ _
        ⟨S.length, e0, e6, e7, e8, rfl, rfl, by omega, rfl, fun u h1 h2 => by omega, E2⟩
      rintro m e h3 ⟨k, e0, e6, e7, e8, e4, e5, hk, rfl, hd, E3⟩
      simp (disch := omega) only [WA, ↓reduceIte, jA, jB, jD, jE, jF, jG, jH, jI, jJ, e5]
      by_cases ck : k < 3
      · have c2 : (k : Int) < 3 := by omega
        simp (disch := omega) only [WA, ↓reduceIte, jA, jB, jD, jE, jF, jG, jH, jI, jJ, c2, e4, e5]
        refine .inl ⟨by kernel_rfl, ?_⟩; refine poDegreeIn_c (rw1.mono E3) fun h4 E4 => ?_
        by_cases cd : 0 < degM p k
        · have hno : needB S.length p = false := by
            obtain ⟨t, ht, hpos⟩ := degM_pos.1 cd
            rw [Bool.eq_false_iff]
            intro hn
            exact needT_iff.1 (List.all_eq_true.1 hn t ht) k ck hk hpos
          rw [sys_bad hp (by rw [hb, hno]; rfl)] at hQ
          simp (disch := omega) only [WA, ↓reduceIte, jA, jB, jD, jE, jF, jG, jH, jI, jJ, cd]
          exact hQ _ ((E.trans E3).trans E4)
        · simp (disch := omega) only [WA, ↓reduceIte, jA, jB, jD, jE, jF, jG, jH, jI, jJ, cd, e5, wrap_in]
          refine ⟨_, by omega, k + 1, e0, e6, e7, e8, e4, by simp, by omega, rfl, fun u h1 h2 h3 => ?_, E3.trans E4⟩
          by_cases hu : u = k
          · rw [hu]; exact cd
          · exact hd u h1 (by omega) h3
      · have c2 : ¬ (k : Int) < 3 := by omega
        simp (disch := omega) only [WA, ↓reduceIte, jA, jB, jD, jE, jF, jG, jH, jI, jJ, c2, e8, wrap_in]
        refine ⟨_, by omega, i + 1, e0, e6, e7, by simp, by omega, rfl, ?_, E.trans E3⟩
        have hn : needB S.length p = true := by
          unfold needB
          rw [List.all_eq_true]
          intro t ht
          rw [needT_iff]
          intro u hu hsu hpos
          exact hd u hsu (by omega) hu (degM_pos.2 ⟨t, ht, hpos⟩)
        rw [List.take_add_one, hp, List.all_append, hall]
        simp [hb, hn]
  · obtain rfl : i = S.length := by omega
    have c1 : ¬ (S.length : Int) < (S.length : Int) := by omega
    rw [List.take_length] at hall
    unfold sysB at hQ
    rw [hall, Bool.true_and] at hQ
    simp (disch := omega) only [WA, ↓reduceIte, jA, jB, jD, jE, jF, jG, jH, jI, jJ, c1, e0, rS.isRow.len]
    refine .inl ⟨by kernel_rfl, ?_⟩; refine l1In_c ?_
    simp (disch := omega) only [WA, ↓reduceIte, jA, jB, jD, jE, jF, jG, jH, jI, jJ]
    exact hQ _ E
end Go.Proofs
end

section
set_option linter.unusedSimpArgs false
set_option linter.unusedVariables false
set_option maxRecDepth 4000
namespace Go.Proofs
open Go Go.V
open Nat renaming reduceEqDiff → jA, reduceAdd → jB, reduceMul → jD, reduceSub → jE, reduceLeDiff → jF
open Int renaming reduceLT → jG, reduceLE → jH, reduceNeg → jI, reduceEq → jJ
def planeB (b : Bx) : Bool := boxM b && decide (b.low.length = 2) && decide (b.k ≤ 3)
def twoB (S : List (List Tm)) : Bool := decide (S.length = 2) && sysB S
theorem isTwo_c {S : List (List Tm)} {v : Value} {h : Heap} {Q : Value → Heap → Prop} (rS : Row h S v) (hQ : ∀ h', Ext h h' → Q (.bool (twoB S)) h') : CallsV Tryz.prog 56 [v] h Q := by
  refine CallsV.start Tryz.func56 rfl (by rw [Tryz.results56]) (by kernel_rfl) (by rw [Tryz.ntmps56]; simp) ?_
  unfold twoB at hQ
  by_cases c : S.length = 2
  · have c' : (S.length : Int) = 2 := by omega
    have d := decide_eq_true c'
    have d' := decide_eq_true c
    rw [d', Bool.true_and] at hQ
    simp (disch := omega) only [WA, ↓reduceIte, jA, jB, jD, jE, jF, jG, jH, jI, jJ, rS.isRow.len, d, c']
    refine .inl ⟨by kernel_rfl, ?_⟩; refine isSystem_c rS fun h1 E1 => ?_
    simp (disch := omega) only [WA, ↓reduceIte, jA, jB, jD, jE, jF, jG, jH, jI, jJ]
    exact hQ _ E1
  · have c' : ¬ (S.length : Int) = 2 := by omega
    have d := decide_eq_false c'
    have d' := decide_eq_false c
    rw [d', Bool.false_and] at hQ
    simp (disch := omega) only [WA, ↓reduceIte, jA, jB, jD, jE, jF, jG, jH, jI, jJ, rS.isRow.len, d, c']
    exact hQ _ (.refl h)
theorem isPlaneBox_c {x : Bx} {b off : Nat} {h : Heap} {Q : Value → Heap → Prop} (hp : At h b off x) (hQ : Q (.bool (planeB x)) h) :
    CallsV Tryz.prog 57 [.pointer (some ⟨b, off, none⟩)] h Q := by
  obtain ⟨v1, v2, g0, g1, g2, f1, r1, r2, _⟩ := at_Bx hp
  refine CallsV.start Tryz.func57 rfl (by rw [Tryz.results57]) (by kernel_rfl) (by rw [Tryz.ntmps57]; simp) ?_
  unfold planeB at hQ
  simp (disch := omega) only [WA, ↓reduceIte, jA, jB, jD, jE, jF, jG, jH, jI, jJ]
  refine .inl ⟨by kernel_rfl, ?_⟩; refine isBox_c hp ?_
  cases hb : boxM x with
  | false =>
    rw [hb] at hQ
    simp (disch := omega) only [WA, ↓reduceIte, jA, jB, jD, jE, jF, jG, jH, jI, jJ]
    exact hQ
  | true =>
    rw [hb, Bool.true_and] at hQ
    by_cases c : x.low.length = 2
    · have c' : (x.low.length : Int) = 2 := by omega
      have d := decide_eq_true c'
      have d' := decide_eq_true c
      rw [d', Bool.true_and] at hQ
      simp (disch := omega) only [WA, ↓reduceIte, jA, jB, jD, jE, jF, jG, jH, jI, jJ, g1, r1.isRow.len, d, c', g0]
      exact hQ
    · have c' : ¬ (x.low.length : Int) = 2 := by omega
      have d := decide_eq_false c'
      have d' := decide_eq_false c
      rw [d', Bool.false_and] at hQ
      simp (disch := omega) only [WA, ↓reduceIte, jA, jB, jD, jE, jF, jG, jH, jI, jJ, g1, r1.isRow.len, d, c', g0]
      exact hQ
theorem isPlane_c {S : List (List Tm)} {x : Bx} {v : Value} {b off : Nat} {h : Heap} {Q : Value → Heap → Prop} (rS : Row h S v) (hb : b < h.length) (hp : At h b off x) (hQ : ∀ h', Ext h h' → Q (.bool (twoB S && planeB x)) h') :
    CallsV Tryz.prog 36 [v, .pointer (some ⟨b, off, none⟩)] h Q := by
  refine CallsV.start Tryz.func36 rfl (by rw [Tryz.results36]) (by kernel_rfl) (by rw [Tryz.ntmps36]; simp) ?_
  simp (disch := omega) only [WA, ↓reduceIte, jA, jB, jD, jE, jF, jG, jH, jI, jJ]
  refine .inl ⟨by kernel_rfl, ?_⟩; refine isTwo_c rS fun h1 E1 => ?_
  cases ht : twoB S with
  | false =>
    rw [ht, Bool.false_and] at hQ
    simp (disch := omega) only [WA, ↓reduceIte, jA, jB, jD, jE, jF, jG, jH, jI, jJ]
    exact hQ _ E1
  | true =>
    rw [ht, Bool.true_and] at hQ
    simp (disch := omega) only [WA, ↓reduceIte, jA, jB, jD, jE, jF, jG, jH, jI, jJ]
    refine .inl ⟨by kernel_rfl, ?_⟩; refine isPlaneBox_c (hp.mono hb E1) ?_
    simp (disch := omega) only [WA, ↓reduceIte, jA, jB, jD, jE, jF, jG, jH, jI, jJ]
    exact hQ _ E1
theorem imBox_c {x : Bx} {cs : List Value} {h : Heap} {Q : Value → Heap → Prop} (hx : Here h x cs) (hQ : ∀ h', Ext h h' → Q (.bool (planeB x)) h') : CallsV Tryz.prog 63 [.agg cs.toArray] h Q := by
  obtain ⟨v1, v2, rfl, f1, r1, r2⟩ := here_Bx hx
  refine CallsV.start Tryz.func63 rfl (by rw [Tryz.results63]) (by kernel_rfl) (by rw [Tryz.ntmps63]; simp) ?_
  have s := Sep.blk1 h [.int .i64 x.k, v1, v2] 32 true
  unfold planeB at hQ
  have g := s.rd
  have ga := s.rdAll (n := 3) rfl
  simp (disch := omega) only [WA, ↓reduceIte, jA, jB, jD, jE, jF, jG, jH, jI, jJ, g, ga]
  refine .inl ⟨by kernel_rfl, ?_⟩; refine bxGood_c (hx.mono s.ext) fun h1 E1 => ?_
  have s := s.mono E1
  have g := s.rd
  have ga := s.rdAll (n := 3) rfl
  cases hb : boxM x with
  | false =>
    rw [hb] at hQ
    simp (disch := omega) only [WA, ↓reduceIte, jA, jB, jD, jE, jF, jG, jH, jI, jJ, g]
    exact hQ _ s.ext
  | true =>
    rw [hb, Bool.true_and] at hQ
    by_cases c : x.low.length = 2
    · have c' : (x.low.length : Int) = 2 := by omega
      have d := decide_eq_true c'
      have d' := decide_eq_true c
      rw [d', Bool.true_and] at hQ
      simp (disch := omega) only [WA, ↓reduceIte, jA, jB, jD, jE, jF, jG, jH, jI, jJ, g, r1.isRow.len, d, c']
      exact hQ _ s.ext
    · have c' : ¬ (x.low.length : Int) = 2 := by omega
      have d := decide_eq_false c'
      have d' := decide_eq_false c
      rw [d', Bool.false_and] at hQ
      simp (disch := omega) only [WA, ↓reduceIte, jA, jB, jD, jE, jF, jG, jH, jI, jJ, g, r1.isRow.len, d, c']
      exact hQ _ s.ext
theorem imGood_c {S : List (List Tm)} {x : Bx} {v : Value} {cs : List Value} {h : Heap} {Q : Value → Heap → Prop} (rS : Row h S v) (hx : Here h x cs) (hQ : ∀ h', Ext h h' → Q (.bool (twoB S && planeB x)) h') :
    CallsV Tryz.prog 46 [v, .agg cs.toArray] h Q := by
  have hlen := Here.len hx
  rw [Bx.sz] at hlen
  refine CallsV.start Tryz.func46 rfl (by rw [Tryz.results46]) (by kernel_rfl) (by rw [Tryz.ntmps46]; simp) ?_
  have s := Sep.blk1 h cs 32 true
  unfold twoB at hQ
  simp (disch := omega) only [WA, ↓reduceIte, jA, jB, jD, jE, jF, jG, jH, jI, jJ, hlen]
  refine .inl ⟨by kernel_rfl, ?_⟩; refine poSystem_c (rS.mono s.ext) fun h1 E1 => ?_
  have s := s.mono E1
  have ga := s.rdAll (n := 3) hlen.symm
  cases hb : sysB S with
  | false =>
    rw [hb, Bool.and_false, Bool.false_and] at hQ
    simp (disch := omega) only [WA, ↓reduceIte, jA, jB, jD, jE, jF, jG, jH, jI, jJ]
    exact hQ _ s.ext
  | true =>
    rw [hb, Bool.and_true] at hQ
    by_cases c : S.length = 2
    · have c' : (S.length : Int) = 2 := by omega
      have d := decide_eq_true c'
      have d' := decide_eq_true c
      rw [d', Bool.true_and] at hQ
      simp (disch := omega) only [WA, ↓reduceIte, jA, jB, jD, jE, jF, jG, jH, jI, jJ, rS.isRow.len, d, c', ga]
      refine .inl ⟨by kernel_rfl, ?_⟩; refine imBox_c (hx.mono s.ext) fun h2 E2 => ?_
      simp (disch := omega) only [WA, ↓reduceIte, jA, jB, jD, jE, jF, jG, jH, jI, jJ]
      exact hQ _ (s.ext.trans E2)
    · have c' : ¬ (S.length : Int) = 2 := by omega
      have d := decide_eq_false c'
      have d' := decide_eq_false c
      rw [d', Bool.false_and] at hQ
      simp (disch := omega) only [WA, ↓reduceIte, jA, jB, jD, jE, jF, jG, jH, jI, jJ, rS.isRow.len, d, c']
      exact hQ _ s.ext
end Go.Proofs
end

/- The layer V and contracts of functions over it, or plain laws behind one statement (own work): MS=IR,IS. Conditions: those told in each theorem. -/
import Derived.Test.YtlnephhhcofilaaGreatHT
import Derived.Test.YtlnephhhcofilaaGreatZB0
import Derived.Test.YtlnephhhcofilaaGreatMC
import Derived.Test.YtlnephhhcofilaaGreatMY
set_option linter.all false
section
set_option linter.unusedSimpArgs false
set_option linter.unusedVariables false
set_option maxRecDepth 4000
namespace Go.Proofs
open Go Go.V
open Nat renaming reduceEqDiff → jA, reduceAdd → jB, reduceMul → jD, reduceSub → jE, reduceLeDiff → jF
open Int renaming reduceLT → jG, reduceLE → jH, reduceNeg → jI, reduceEq → jJ
/- Which polynomials are asked. -/
def tmB (t : Tm) : Bool := decide (-1000 ≤ t.c ∧ t.c ≤ 1000) && decide (0 ≤ t.x ∧ t.x ≤ 4) && decide (0 ≤ t.y ∧ t.y ≤ 4) && decide (0 ≤ t.z ∧ t.z ≤ 4) && decide (t.x + t.y + t.z ≤ 4)
def ordM (a b : Tm) : Int := if sgnI a.x b.x = 0 then (if sgnI a.y b.y = 0 then sgnI a.z b.z else sgnI a.y b.y) else sgnI a.x b.x
def prevB (s : Option Tm) (t : Tm) : Bool := match s with | none => true | some s => decide (ordM s t < 0)
def polyF : Option Tm → List Tm → Bool
  | _, [] => true
  | s, t :: l => (tmB t && decide (t.c ≠ 0) && prevB s t) && polyF (some t) l
def polyB (p : List Tm) : Bool := polyF none p && decide (p.length ≤ 20)
abbrev tmC (t : Tm) : List Value := [.int .i64 t.c, .int .i64 t.x, .int .i64 t.y, .int .i64 t.z]
theorem tmB_iff {t : Tm} : tmB t = true ↔ (-1000 ≤ t.c ∧ t.c ≤ 1000) ∧ (0 ≤ t.x ∧ t.x ≤ 4) ∧ (0 ≤ t.y ∧ t.y ≤ 4) ∧ (0 ≤ t.z ∧ t.z ≤ 4) ∧ t.x + t.y + t.z ≤ 4 := by
  unfold tmB
  simp only [Bool.and_eq_true, decide_eq_true_eq, and_assoc]
theorem tmB_G {t : Tm} (h : tmB t = true) : TmG t := by
  obtain ⟨h1, h2, h3, h4, h5⟩ := tmB_iff.1 h
  exact ⟨by omega, by omega, by omega, by omega, by omega, by omega, by omega, by omega⟩
theorem degree_c {t : Tm} {h : Heap} {Q : Value → Heap → Prop} (h0 : 0 ≤ t.x ∧ t.x ≤ 4) (h1 : 0 ≤ t.y ∧ t.y ≤ 4) (h2 : 0 ≤ t.z ∧ t.z ≤ 4) (hQ : ∀ h', Ext h h' → Q (.int .i64 (t.x + t.y + t.z)) h') :
    CallsV Tryz.prog 121 [.agg (tmC t).toArray] h Q := by
  refine CallsV.start Tryz.func121 rfl (by rw [Tryz.results121]) (by kernel_rfl) (by rw [Tryz.ntmps121]; simp) ?_
  simp (disch := omega) only [WA, ↓reduceIte, jA, jB, jD, jE, jF, jG, jH, jI, jJ, wrap_in]
  exact hQ _ (.one _ _)
theorem hasDegree_c {t : Tm} {h : Heap} {Q : Value → Heap → Prop} (hQ : ∀ h', Ext h h' → Q (.bool (decide (0 ≤ t.x ∧ t.x ≤ 4) && decide (0 ≤ t.y ∧ t.y ≤ 4) && decide (0 ≤ t.z ∧ t.z ≤ 4) && decide (t.x + t.y + t.z ≤ 4))) h') :
    CallsV Tryz.prog 110 [.agg (tmC t).toArray] h Q := by
  refine CallsV.start Tryz.func110 rfl (by rw [Tryz.results110]) (by kernel_rfl) (by rw [Tryz.ntmps110]; simp) ?_
  have s := Sep.blk1 h (tmC t) 59 true
  have g := s.rd
  have ga := s.rdAll (n := 4) rfl
  simp (disch := omega) only [WA, ↓reduceIte, jA, jB, jD, jE, jF, jG, jH, jI, jJ, g]
  refine .inl ⟨by kernel_rfl, ?_⟩; refine inside_c ?_
  by_cases c1 : 0 ≤ t.x ∧ t.x ≤ 4
  · have d1 := decide_eq_true c1
    rw [d1] at hQ ⊢
    simp (disch := omega) only [WA, ↓reduceIte, jA, jB, jD, jE, jF, jG, jH, jI, jJ, g]
    refine .inl ⟨by kernel_rfl, ?_⟩; refine inside_c ?_
    by_cases c2 : 0 ≤ t.y ∧ t.y ≤ 4
    · have d2 := decide_eq_true c2
      rw [d2] at hQ ⊢
      simp (disch := omega) only [WA, ↓reduceIte, jA, jB, jD, jE, jF, jG, jH, jI, jJ, g]
      refine .inl ⟨by kernel_rfl, ?_⟩; refine inside_c ?_
      by_cases c3 : 0 ≤ t.z ∧ t.z ≤ 4
      · have d3 := decide_eq_true c3
        rw [d3] at hQ ⊢
        simp (disch := omega) only [WA, ↓reduceIte, jA, jB, jD, jE, jF, jG, jH, jI, jJ, g, ga]
        refine .inl ⟨by kernel_rfl, ?_⟩; refine degree_c c1 c2 c3 fun h1 E1 => ?_
        simp (disch := omega) only [WA, ↓reduceIte, jA, jB, jD, jE, jF, jG, jH, jI, jJ]
        simpa using hQ _ (s.ext.trans E1)
      · have d3 := decide_eq_false c3
        rw [d3] at hQ ⊢
        simp (disch := omega) only [WA, ↓reduceIte, jA, jB, jD, jE, jF, jG, jH, jI, jJ, g]
        simpa using hQ _ s.ext
    · have d2 := decide_eq_false c2
      rw [d2] at hQ ⊢
      simp (disch := omega) only [WA, ↓reduceIte, jA, jB, jD, jE, jF, jG, jH, jI, jJ, g]
      simpa using hQ _ s.ext
  · have d1 := decide_eq_false c1
    rw [d1] at hQ ⊢
    simp (disch := omega) only [WA, ↓reduceIte, jA, jB, jD, jE, jF, jG, jH, jI, jJ, g]
    simpa using hQ _ s.ext
theorem or3_c {x y z : Int} {v : Value} {h : Heap} {Q : Value → Heap → Prop} (hv : Row h [x, y, z] v) (hQ : Q (.int .i64 (if x = 0 then (if y = 0 then z else y) else x)) h) : CallsV Tryz.prog 122 [v] h Q := by
  refine CallsV.start Tryz.func122 rfl (by rw [Tryz.results122]) (by kernel_rfl) (by rw [Tryz.ntmps122]; simp) ?_
  obtain ⟨x3, _⟩ := row_int hv (i := 0) (x := x) rfl
  obtain ⟨y3, _⟩ := row_int hv (i := 1) (x := y) rfl
  obtain ⟨z3, _⟩ := row_int hv (i := 2) (x := z) rfl
  rw [Nat.add_zero] at x3
  have len := hv.isRow.len Tryz.prog
  have ix := hv.isRow.ix Tryz.prog
  simp only [List.length_cons, List.length_nil] at len ix
  have t0 : Int.toNat 0 = 0 := rfl
  have t1 : Int.toNat 1 = 1 := rfl
  have t2 : Int.toNat 2 = 2 := rfl
  simp (disch := omega) only [WA, ↓reduceIte, jA, jB, jD, jE, jF, jG, jH, jI, jJ, len]
  refine loop_rule (fun n e h' => h' = h ∧ e 3 = .int .i64 0 ∧ e 6 = v ∧ e 7 = .int .i64 3 ∧ ((n = 3 ∧ e 8 = .int .i64 0) ∨ (n = 2 ∧ x = 0 ∧ e 8 = .int .i64 1) ∨ (n = 1 ∧ x = 0 ∧ y = 0 ∧ e 8 = .int .i64 2) ∨ (n = 0 ∧ x = 0 ∧ y = 0 ∧ z = 0 ∧ e 8 = .int .i64 3))) ?_ 3 _ _ ⟨rfl, rfl, rfl, rfl, .inl ⟨rfl, rfl⟩⟩
  rintro n e h' ⟨rfl, e3, e6, e7, hc⟩
  rcases hc with ⟨rfl, e8⟩ | ⟨rfl, hx, e8⟩ | ⟨rfl, hx, hy, e8⟩ | ⟨rfl, hx, hy, hz, e8⟩
  · simp (disch := omega) only [WA, ↓reduceIte, jA, jB, jD, jE, jF, jG, jH, jI, jJ, e7, e8, e6, e3, ix, x3, t0]
    by_cases c : x = 0
    · have c' := decide_eq_true c
      simp (disch := omega) only [WA, ↓reduceIte, jA, jB, jD, jE, jF, jG, jH, jI, jJ, c', e3, e6, e7, e8, wrap_in]
      exact ⟨2, by omega, .inr (.inl ⟨rfl, c, by simp⟩)⟩
    · have c' := decide_eq_false c
      rw [if_neg c] at hQ
      simp (disch := omega) only [WA, ↓reduceIte, jA, jB, jD, jE, jF, jG, jH, jI, jJ, c']
      exact hQ
  · rw [if_pos hx] at hQ
    simp (disch := omega) only [WA, ↓reduceIte, jA, jB, jD, jE, jF, jG, jH, jI, jJ, e7, e8, e6, e3, ix, y3, t1]
    by_cases c : y = 0
    · have c' := decide_eq_true c
      simp (disch := omega) only [WA, ↓reduceIte, jA, jB, jD, jE, jF, jG, jH, jI, jJ, c', e3, e6, e7, e8, wrap_in]
      exact ⟨1, by omega, .inr (.inr (.inl ⟨rfl, hx, c, by simp⟩))⟩
    · have c' := decide_eq_false c
      rw [if_neg c] at hQ
      simp (disch := omega) only [WA, ↓reduceIte, jA, jB, jD, jE, jF, jG, jH, jI, jJ, c']
      exact hQ
  · rw [if_pos hx, if_pos hy] at hQ
    simp (disch := omega) only [WA, ↓reduceIte, jA, jB, jD, jE, jF, jG, jH, jI, jJ, e7, e8, e6, e3, ix, z3, t2]
    by_cases c : z = 0
    · have c' := decide_eq_true c
      simp (disch := omega) only [WA, ↓reduceIte, jA, jB, jD, jE, jF, jG, jH, jI, jJ, c', e3, e6, e7, e8, wrap_in]
      exact ⟨0, by omega, .inr (.inr (.inr ⟨rfl, hx, hy, c, by simp⟩))⟩
    · have c' := decide_eq_false c
      simp (disch := omega) only [WA, ↓reduceIte, jA, jB, jD, jE, jF, jG, jH, jI, jJ, c']
      exact hQ
  · rw [if_pos hx, if_pos hy, hz] at hQ
    simp (disch := omega) only [WA, ↓reduceIte, jA, jB, jD, jE, jF, jG, jH, jI, jJ, e7, e8, e3]
    exact hQ
theorem sgnI_in (a b : Int) : inI64 (sgnI a b) := by unfold sgnI inI64; split; decide; split <;> decide
theorem compareTerms_c {a b : Tm} {h : Heap} {Q : Value → Heap → Prop} (hQ : ∀ h', Ext h h' → Q (.int .i64 (ordM a b)) h') :
    CallsV Tryz.prog 111 [.agg (tmC a).toArray, .agg (tmC b).toArray] h Q := by
  refine CallsV.start Tryz.func111 rfl (by rw [Tryz.results111]) (by kernel_rfl) (by rw [Tryz.ntmps111]; simp) ?_
  have s := Sep.blk2 h (tmC a) (tmC b) 59 59 true true
  have g1 := (s.pull 1 rfl).rd
  have g2 := (s.pull 0 rfl).rd
  simp (disch := omega) only [WA, ↓reduceIte, jA, jB, jD, jE, jF, jG, jH, jI, jJ]
  refine draw_ord [0, 1, 2, 3, 5, 6, 7, 8, 10, 11, 12, 13, 4, 9, 14, 15, 16, 17] (by kernel_rfl) (by simp only [WLF]; rfl) ?_
  simp (disch := omega) only [WA, ↓reduceIte, jA, jB, jD, jE, jF, jG, jH, jI, jJ, g1, g2]
  refine .inl ⟨by kernel_rfl, ?_⟩; refine compareI_c ?_
  simp (disch := omega) only [WA, ↓reduceIte, jA, jB, jD, jE, jF, jG, jH, jI, jJ, g1, g2]
  refine .inl ⟨by kernel_rfl, ?_⟩; refine compareI_c ?_
  simp (disch := omega) only [WA, ↓reduceIte, jA, jB, jD, jE, jF, jG, jH, jI, jJ, g1, g2]
  refine .inl ⟨by kernel_rfl, ?_⟩; refine compareI_c ?_
  have sb := s.newBlk [.int .i64 (sgnI a.x b.x), .int .i64 (sgnI a.y b.y), .int .i64 (sgnI a.z b.z)] 3 true
  have g1 := (sb.pull 2 rfl).rd
  have g2 := (sb.pull 1 rfl).rd
  simp only [List.append_assoc, List.cons_append, List.nil_append, List.length_append, List.length_cons, List.length_nil] at sb g1 g2
  simp (disch := omega) only [WA, ↓reduceIte, jA, jB, jD, jE, jF, jG, jH, jI, jJ, g1, g2]
  have rr := Row.ofBlk (α := Int) (n := 3) (l := [sgnI a.x b.x, sgnI a.y b.y, sgnI a.z b.z]) (sb.rdAll (n := 3) rfl) ⟨[[], [], []], ⟨[_], [], _, _, rfl, rfl, ⟨rfl, rfl, sgnI_in _ _⟩, ⟨[_], [], _, _, rfl, rfl, ⟨rfl, rfl, sgnI_in _ _⟩, ⟨[_], [], _, _, rfl, rfl, ⟨rfl, rfl, sgnI_in _ _⟩, rfl, rfl⟩⟩⟩⟩ rfl (by simp)
  refine .inl ⟨by kernel_rfl, ?_⟩; refine or3_c rr ?_
  simp (disch := omega) only [WA, ↓reduceIte, jA, jB, jD, jE, jF, jG, jH, jI, jJ]
  exact hQ _ sb.ext
theorem sgnI_zero {a b : Int} : sgnI a b = 0 ↔ a = b := by
  unfold sgnI
  split
  · constructor <;> intro h <;> omega
  · split
    · constructor <;> intro h <;> omega
    · constructor <;> intro h <;> omega
theorem sgnI_sgn (a b : Int) : sgnI a b = sgn (a - b) := by
  unfold sgnI sgn
  by_cases c1 : a < b
  · rw [if_pos c1, if_neg (by omega), if_pos (by omega)]
  · by_cases c2 : b < a
    · rw [if_neg c1, if_pos c2, if_pos (by omega)]
    · rw [if_neg c1, if_neg c2, if_neg (by omega), if_neg (by omega)]
theorem poOrder_c {a b : Tm} {h : Heap} {Q : Value → Heap → Prop} (ha : TmG a) (hb : TmG b) (hQ : ∀ h', Ext h h' → Q (.int .i64 (ordM a b)) h') :
    CallsV Tryz.prog 97 [.agg (tmC a).toArray, .agg (tmC b).toArray] h Q := by
  refine CallsV.start Tryz.func97 rfl (by rw [Tryz.results97]) (by kernel_rfl) (by rw [Tryz.ntmps97]; simp) ?_
  have s := Sep.blk2 h (tmC a) (tmC b) 59 59 true true
  have g1 := (s.pull 1 rfl).rd
  have g2 := (s.pull 0 rfl).rd
  unfold ordM at hQ
  have := ha.x0; have := ha.x1; have := ha.y0; have := ha.y1; have := ha.z0; have := ha.z1
  have := hb.x0; have := hb.x1; have := hb.y0; have := hb.y1; have := hb.z0; have := hb.z1
  simp (disch := omega) only [WA, ↓reduceIte, jA, jB, jD, jE, jF, jG, jH, jI, jJ, g1, g2]
  by_cases c1 : a.x = b.x
  · rw [if_pos (sgnI_zero.2 c1)] at hQ
    have d1 := decide_eq_true c1
    simp (disch := omega) only [WA, ↓reduceIte, jA, jB, jD, jE, jF, jG, jH, jI, jJ, d1, g1, g2]
    by_cases c2 : a.y = b.y
    · rw [if_pos (sgnI_zero.2 c2), sgnI_sgn] at hQ
      have d2 := decide_eq_true c2
      simp (disch := omega) only [WA, ↓reduceIte, jA, jB, jD, jE, jF, jG, jH, jI, jJ, d2, g1, g2, wrap_in]
      refine .inl ⟨by kernel_rfl, ?_⟩; refine l1Sign_c ?_
      simp (disch := omega) only [WA, ↓reduceIte, jA, jB, jD, jE, jF, jG, jH, jI, jJ]
      exact hQ _ s.ext
    · rw [if_neg (fun e => c2 (sgnI_zero.1 e)), sgnI_sgn] at hQ
      have d2 := decide_eq_false c2
      simp (disch := omega) only [WA, ↓reduceIte, jA, jB, jD, jE, jF, jG, jH, jI, jJ, d2, g1, g2, wrap_in]
      refine .inl ⟨by kernel_rfl, ?_⟩; refine l1Sign_c ?_
      simp (disch := omega) only [WA, ↓reduceIte, jA, jB, jD, jE, jF, jG, jH, jI, jJ]
      exact hQ _ s.ext
  · rw [if_neg (fun e => c1 (sgnI_zero.1 e)), sgnI_sgn] at hQ
    have d1 := decide_eq_false c1
    simp (disch := omega) only [WA, ↓reduceIte, jA, jB, jD, jE, jF, jG, jH, jI, jJ, d1, g1, g2, wrap_in]
    refine .inl ⟨by kernel_rfl, ?_⟩; refine l1Sign_c ?_
    simp (disch := omega) only [WA, ↓reduceIte, jA, jB, jD, jE, jF, jG, jH, jI, jJ]
    exact hQ _ s.ext
theorem poTerm_c {t : Tm} {h : Heap} {Q : Value → Heap → Prop} (hQ : ∀ h', Ext h h' → Q (.bool (tmB t)) h') :
    CallsV Tryz.prog 96 [.agg (tmC t).toArray] h Q := by
  refine CallsV.start Tryz.func96 rfl (by rw [Tryz.results96]) (by kernel_rfl) (by rw [Tryz.ntmps96]; simp) ?_
  have s := Sep.blk1 h (tmC t) 59 true
  have g := s.rd
  unfold tmB at hQ
  simp (disch := omega) only [WA, ↓reduceIte, jA, jB, jD, jE, jF, jG, jH, jI, jJ, g]
  refine .inl ⟨by kernel_rfl, ?_⟩; refine l1In_c ?_
  by_cases c0 : -1000 ≤ t.c ∧ t.c ≤ 1000
  · have d0 := decide_eq_true c0
    rw [d0] at hQ ⊢
    simp (disch := omega) only [WA, ↓reduceIte, jA, jB, jD, jE, jF, jG, jH, jI, jJ, g]
    refine .inl ⟨by kernel_rfl, ?_⟩; refine l1In_c ?_
    by_cases c1 : 0 ≤ t.x ∧ t.x ≤ 4
    · have d1 := decide_eq_true c1
      rw [d1] at hQ ⊢
      simp (disch := omega) only [WA, ↓reduceIte, jA, jB, jD, jE, jF, jG, jH, jI, jJ, g]
      refine .inl ⟨by kernel_rfl, ?_⟩; refine l1In_c ?_
      by_cases c2 : 0 ≤ t.y ∧ t.y ≤ 4
      · have d2 := decide_eq_true c2
        rw [d2] at hQ ⊢
        simp (disch := omega) only [WA, ↓reduceIte, jA, jB, jD, jE, jF, jG, jH, jI, jJ, g]
        refine .inl ⟨by kernel_rfl, ?_⟩; refine l1In_c ?_
        by_cases c3 : 0 ≤ t.z ∧ t.z ≤ 4
        · have d3 := decide_eq_true c3
          rw [d3] at hQ ⊢
          simp (disch := omega) only [WA, ↓reduceIte, jA, jB, jD, jE, jF, jG, jH, jI, jJ, g, wrap_in]
          simpa using hQ _ s.ext
        · have d3 := decide_eq_false c3
          rw [d3] at hQ ⊢
          simp (disch := omega) only [WA, ↓reduceIte, jA, jB, jD, jE, jF, jG, jH, jI, jJ, g]
          simpa using hQ _ s.ext
      · have d2 := decide_eq_false c2
        rw [d2] at hQ ⊢
        simp (disch := omega) only [WA, ↓reduceIte, jA, jB, jD, jE, jF, jG, jH, jI, jJ, g]
        simpa using hQ _ s.ext
    · have d1 := decide_eq_false c1
      rw [d1] at hQ ⊢
      simp (disch := omega) only [WA, ↓reduceIte, jA, jB, jD, jE, jF, jG, jH, jI, jJ, g]
      simpa using hQ _ s.ext
  · have d0 := decide_eq_false c0
    rw [d0] at hQ ⊢
    simp (disch := omega) only [WA, ↓reduceIte, jA, jB, jD, jE, jF, jG, jH, jI, jJ, g]
    simpa using hQ _ s.ext
end Go.Proofs
end

section
set_option linter.unusedSimpArgs false
set_option linter.unusedVariables false
set_option maxRecDepth 4000
namespace Go.Proofs
open Go Go.V
open Nat renaming reduceEqDiff → jA, reduceAdd → jB, reduceMul → jD, reduceSub → jE, reduceLeDiff → jF
open Int renaming reduceLT → jG, reduceLE → jH, reduceNeg → jI, reduceEq → jJ
theorem polyF_drop {p : List Tm} {i : Nat} {t : Tm} {s : Option Tm} (h : p[i]? = some t) : polyF s (p.drop i) = ((tmB t && decide (t.c ≠ 0) && prevB s t) && polyF (some t) (p.drop (i + 1))) := by
  obtain ⟨hlt, he⟩ := List.getElem?_eq_some_iff.1 h
  rw [List.drop_eq_getElem_cons hlt, he]; rfl
/-- The term before. -/
def Prev (p : List Tm) (i : Nat) (s : Option Tm) : Prop := (i = 0 ∧ s = none) ∨ (0 < i ∧ ∃ x, s = some x ∧ p[i - 1]? = some x ∧ tmB x = true)
theorem row_tm {h : Heap} {p : List Tm} {v : Value} {i : Nat} {t : Tm} (r : Row h p v) (ht : p[i]? = some t) : cellsAt h (rowB v) (rowO v + i * 4) 4 = some (tmC t) := by
  obtain ⟨xs, x3, x4⟩ := r.at ht
  rw [Tm.sz] at x3
  obtain ⟨rfl, -⟩ := here_Tm x4
  exact x3
theorem isPoly_c {p : List Tm} {v : Value} {h : Heap} {Q : Value → Heap → Prop} (rp : Row h p v) (hQ : ∀ h', Ext h h' → Q (.bool (polyB p)) h') : CallsV Tryz.prog 92 [v] h Q := by
  refine CallsV.start Tryz.func92 rfl (by rw [Tryz.results92]) (by kernel_rfl) (by rw [Tryz.ntmps92]; simp) ?_
  have hle := rp.le
  simp (disch := omega) only [WA, ↓reduceIte, jA, jB, jD, jE, jF, jG, jH, jI, jJ, rp.isRow.len]
  refine loop_rule (fun m e h' => ∃ (i : Nat) (ps : Option Tm), e 0 = v ∧ e 5 = v ∧ e 6 = .int .i64 p.length ∧ e 7 = .int .i64 i ∧ i ≤ p.length ∧ m = p.length - i ∧ Prev p i ps ∧ polyB p = (polyF ps (p.drop i) && decide (p.length ≤ 20)) ∧ Ext h h') ?_ p.length _ _
    ⟨0, none, rfl, rfl, rfl, rfl, by omega, by omega, .inl ⟨rfl, rfl⟩, rfl, .refl h⟩
  rintro m e h1 ⟨i, ps, e0, e5, e6, e7, hi, rfl, hps, hv, E⟩
  simp (disch := omega) only [WA, ↓reduceIte, jA, jB, jD, jE, jF, jG, jH, jI, jJ, e6, e7]
  by_cases c : i < p.length
  · obtain ⟨t, ht⟩ := get_some c
    have c1 : (i : Int) < (p.length : Int) := by omega
    have x3 := row_tm (rp.mono E) ht
    rw [polyF_drop ht] at hv
    have s := (Sep.nil E).newBlk (tmC t) 59 true
    simp (disch := omega) only [WA, ↓reduceIte, jA, jB, jD, jE, jF, jG, jH, jI, jJ, c1, e5, e7, rp.isRow.ix, x3]
    generalize hH : h1 ++ [some ⟨tmC t, 59, false, true⟩] = H1 at s ⊢
    have g := s.rd
    have ga := s.rdAll (n := 4) rfl
    refine draw_ord [0, 1, 2, 3, 4, 5, 6, 7, 8, 9, 10, 11, 12, 13, 14, 15, 16, 17, 18, 19, 20, 21, 22, 23, 24, 25, 26, 27] (by kernel_rfl) (by simp only [WLF]; rfl) ?_
    simp (disch := omega) only [WA, ↓reduceIte, jA, jB, jD, jE, jF, jG, jH, jI, jJ, g, ga]
    have bad : (tmB t && decide (t.c ≠ 0) && prevB ps t) = false → polyB p = false := fun hb => by rw [hv, hb]; simp
    by_cases c0 : t.c = 0
    · have d0 := decide_eq_true c0
      rw [bad (by rw [decide_eq_false (show ¬ t.c ≠ 0 from fun hh => hh c0)]; simp)] at hQ
      simp (disch := omega) only [WA, ↓reduceIte, jA, jB, jD, jE, jF, jG, jH, jI, jJ, d0, g, ga]
      exact hQ _ s.ext
    · have d0 := decide_eq_false c0
      simp (disch := omega) only [WA, ↓reduceIte, jA, jB, jD, jE, jF, jG, jH, jI, jJ, d0, g, ga]
      refine .inl ⟨by kernel_rfl, ?_⟩; refine inside_c ?_
      by_cases ci : -1000 ≤ t.c ∧ t.c ≤ 1000
      · have d1 := decide_eq_true ci
        rw [d1]
        simp (disch := omega) only [WA, ↓reduceIte, jA, jB, jD, jE, jF, jG, jH, jI, jJ, g, ga]
        refine .inl ⟨by kernel_rfl, ?_⟩; refine hasDegree_c fun h2 E2 => ?_
        have s := s.mono E2
        have g := s.rd
        have ga := s.rdAll (n := 4) rfl
        have et : (decide (0 ≤ t.x ∧ t.x ≤ 4) && decide (0 ≤ t.y ∧ t.y ≤ 4) && decide (0 ≤ t.z ∧ t.z ≤ 4) && decide (t.x + t.y + t.z ≤ 4)) = tmB t := by unfold tmB; rw [d1]; simp
        rw [et]
        cases hb : tmB t with
        | false =>
          rw [bad (by rw [hb]; rfl)] at hQ
          simp (disch := omega) only [WA, ↓reduceIte, jA, jB, jD, jE, jF, jG, jH, jI, jJ, g, ga]
          exact hQ _ s.ext
        | true =>
          rcases hps with ⟨rfl, rfl⟩ | ⟨hpos, x, rfl, hx, hxb⟩
          · have z : ¬ (0 : Int) < ((0 : Nat) : Int) := by decide
            have z' : decide ((0 : Int) < ((0 : Nat) : Int)) = false := rfl
            simp (disch := omega) only [WA, ↓reduceIte, jA, jB, jD, jE, jF, jG, jH, jI, jJ, g, ga, z, z', e7, wrap_in]
            have z1 : ((0 : Nat) : Int) + 1 = ((1 : Nat) : Int) := rfl
            refine ⟨_, by omega, 1, some t, e0, e5, e6, by simp, by omega, rfl, .inr ⟨by omega, t, rfl, ht, hb⟩, ?_, s.ext⟩
            rw [hv, hb, decide_eq_true (show t.c ≠ 0 from c0)]; rfl
          · have z : (0 : Int) < (i : Int) := by omega
            have dz := decide_eq_true z
            have i1 : (i : Int) - 1 = ((i - 1 : Nat) : Int) := by omega
            have i2 : ((i - 1 : Nat) : Int) < (p.length : Int) := by omega
            have y3 := row_tm (rp.mono s.ext) hx
            simp (disch := omega) only [WA, ↓reduceIte, jA, jB, jD, jE, jF, jG, jH, jI, jJ, g, ga, z, dz, e0, i1, i2, wrap_in, rp.isRow.ix, y3]
            refine .inl ⟨by kernel_rfl, ?_⟩; refine compareTerms_c fun h3 E3 => ?_
            have s := s.mono E3
            have g := s.rd
            have ga := s.rdAll (n := 4) rfl
            have y3 := row_tm (rp.mono s.ext) hx
            by_cases co : ordM x t < 0
            · have nco : ¬ 0 ≤ ordM x t := by omega
              have dco := decide_eq_false nco
              simp (disch := omega) only [WA, ↓reduceIte, jA, jB, jD, jE, jF, jG, jH, jI, jJ, g, ga, y3, nco, dco, e7, wrap_in]
              refine ⟨_, by omega, i + 1, some t, e0, e5, e6, by simp, by omega, rfl, .inr ⟨by omega, t, rfl, ht, hb⟩, ?_, s.ext⟩
              rw [hv, hb, decide_eq_true (show t.c ≠ 0 from c0)]
              have : prevB (some x) t = true := decide_eq_true co
              rw [this]; rfl
            · have nco : 0 ≤ ordM x t := by omega
              have dco := decide_eq_true nco
              have : prevB (some x) t = false := decide_eq_false co
              rw [bad (by rw [this]; simp)] at hQ
              simp (disch := omega) only [WA, ↓reduceIte, jA, jB, jD, jE, jF, jG, jH, jI, jJ, g, ga, y3, nco, dco]
              exact hQ _ s.ext
      · have d1 := decide_eq_false ci
        rw [bad (by unfold tmB; rw [d1]; rfl)] at hQ
        rw [d1]
        simp (disch := omega) only [WA, ↓reduceIte, jA, jB, jD, jE, jF, jG, jH, jI, jJ, g, ga]
        exact hQ _ s.ext
  · obtain rfl : i = p.length := by omega
    have c1 : ¬ (p.length : Int) < (p.length : Int) := by omega
    rw [List.drop_length] at hv
    have hv : polyB p = decide (p.length ≤ 20) := by rw [hv]; rfl
    have ed : decide ((p.length : Int) ≤ 20) = decide (p.length ≤ 20) := decide_eq_decide.2 (by omega)
    simp (disch := omega) only [WA, ↓reduceIte, jA, jB, jD, jE, jF, jG, jH, jI, jJ, c1, e0, rp.isRow.len, ed]
    rw [← hv]
    exact hQ _ E
end Go.Proofs
end

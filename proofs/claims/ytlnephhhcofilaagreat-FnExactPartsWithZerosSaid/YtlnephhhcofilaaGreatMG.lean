/- The layer V and contracts of functions over it, or plain laws behind one statement (own work): MG=UA,UB. Conditions: those told in each theorem. -/
import Derived.Test.YtlnephhhcofilaaGreatIZ
set_option linter.all false
section
set_option linter.unusedSimpArgs false
set_option linter.unusedVariables false
set_option maxRecDepth 4000
namespace Go.Proofs
open Go Go.V
open Nat renaming reduceEqDiff → jA, reduceAdd → jB, reduceMul → jD, reduceSub → jE, reduceLeDiff → jF
open Int renaming reduceLT → jG, reduceLE → jH, reduceNeg → jI, reduceEq → jJ
/- The reasons of all edges. -/
def preM (S : List (List Tm)) : List Ed → List Int
  | [] => []
  | e :: l => match reasM S (sidesM e) with
    | some r => (r : Int) :: preM S l
    | none => []
def allM (S : List (List Tm)) (E : List Ed) : Option (List Int) := if (preM S E).length = E.length then some (preM S E) else none
theorem preM_append {S : List (List Tm)} : ∀ {a b : List Ed}, (preM S a).length = a.length → preM S (a ++ b) = preM S a ++ preM S b
  | [], b, _ => rfl
  | e :: a, b, h => by
    simp only [preM, List.cons_append] at *
    cases hr : reasM S (sidesM e) with
    | none => rw [hr] at h; simp at h
    | some r =>
      rw [hr] at h
      simp only [List.length_cons] at h
      simp only [List.cons_append]
      rw [preM_append (by omega)]
theorem preM_le {S : List (List Tm)} : ∀ {a : List Ed}, (preM S a).length ≤ a.length
  | [] => Nat.le_refl _
  | e :: a => by
    simp only [preM]
    cases hr : reasM S (sidesM e) with
    | none => simp
    | some r =>
      have := preM_le (S := S) (a := a)
      simp only [List.length_cons]; omega
theorem preM_in {S : List (List Tm)} : ∀ {a : List Ed}, ∀ x ∈ preM S a, 0 ≤ x ∧ x ≤ 3
  | [], x, hx => by simp [preM] at hx
  | e :: a, x, hx => by
    simp only [preM] at hx
    cases hr : reasM S (sidesM e) with
    | none => rw [hr] at hx; simp at hx
    | some r =>
      rw [hr] at hx
      rcases List.mem_cons.1 hx with rfl | hx
      · unfold reasM at hr
        have := List.mem_range.1 (List.mem_of_find?_eq_some hr)
        omega
      · exact preM_in x hx
theorem preM_some {S : List (List Tm)} {E : List Ed} {i : Nat} {e : Ed} {r : Nat} (h : (preM S (E.take i)).length = i) (hi : E[i]? = some e) (hr : reasM S (sidesM e) = some r) :
    preM S (E.take (i + 1)) = preM S (E.take i) ++ [(r : Int)] ∧ (preM S (E.take (i + 1))).length = i + 1 := by
  obtain ⟨hlt, _⟩ := List.getElem?_eq_some_iff.1 hi
  have e1 : preM S (E.take (i + 1)) = preM S (E.take i) ++ [(r : Int)] := by
    rw [List.take_add_one, hi, preM_append (by rw [List.length_take]; omega)]
    simp [preM, hr]
  rw [e1]
  exact ⟨rfl, by simp [h]⟩
theorem preM_none {S : List (List Tm)} {E : List Ed} {i : Nat} {e : Ed} (h : (preM S (E.take i)).length = i) (hi : E[i]? = some e) (hr : reasM S (sidesM e) = none) : preM S E = preM S (E.take i) ∧ allM S E = none := by
  obtain ⟨hlt, _⟩ := List.getElem?_eq_some_iff.1 hi
  have e1 : preM S E = preM S (E.take i) := by
    conv => lhs; rw [← List.take_append_drop i E]
    rw [preM_append (by rw [List.length_take]; omega), drop_cons hi]
    simp [preM, hr]
  refine ⟨e1, ?_⟩
  unfold allM
  rw [e1, if_neg (by omega)]
theorem imReasons_c {S : List (List Tm)} {b : Bx} {v : Value} {cs : List Value} {k d : Nat} {x y z w : Int} {h : Heap} {Q : Value → Heap → Prop} (rS : Row h S v) (hS : twoB S = true) (hb : Here h b cs) (g : PlG b k x y z w) (hd : d ≤ 5)
    (hQ : ∀ v h', Sep h h' [ownA 3 (preM S (edgesM x y z w k d)) v] → Q v h') : CallsV Tryz.prog 74 [v, .agg cs.toArray, .int .i64 d] h Q := by
  obtain ⟨v1, v2, rfl, _⟩ := here_Bx hb
  refine CallsV.start Tryz.func74 rfl (by rw [Tryz.results74]) (by kernel_rfl) (by rw [Tryz.ntmps74]; simp) ?_
  have s := Sep.blk1 h [.int .i64 b.k, v1, v2] 32 true
  have ga := s.rdAll (n := 3) rfl
  simp (disch := omega) only [WA, ↓reduceIte, jA, jB, jD, jE, jF, jG, jH, jI, jJ, ga]
  refine .inl ⟨by kernel_rfl, ?_⟩; refine imEdges_c (hb.mono s.ext) g hd fun vE h1 t1 => ?_
  have s := s.add t1
  have rE := (s.pull 0 rfl).row
  have hEl := edgesM_len x y z w k d
  obtain ⟨N, eN, eN', hN1, hN2⟩ := pow_d hd
  rw [eN'] at hEl
  simp (disch := omega) only [WA, ↓reduceIte, jA, jB, jD, jE, jF, jG, jH, jI, jJ, rE.isRow.len]
  have s := s.head.nilA (α := Int) 3
  generalize hE : edgesM x y z w k d = E at *
  have hEg : ∀ e ∈ E, EdG e := by rw [← hE]; exact edgesM_good
  refine loop_rule (fun m e h' => ∃ (i : Nat) (vo : Value), e 0 = v ∧ e 7 = vo ∧ e 14 = vE ∧ e 15 = .int .i64 E.length ∧ e 16 = .int .i64 i ∧ i ≤ E.length ∧ m = E.length - i ∧ (preM S (E.take i)).length = i ∧ Sep h h' [ownA 3 (preM S (E.take i)) vo, ownA 102 E vE]) ?_ E.length _ _
    ⟨0, _, rfl, rfl, rfl, rfl, rfl, by omega, by omega, by simp [preM], s⟩
  clear s rE ga
  rintro m e h3 ⟨i, vo, e0, e7, e14, e15, e16, hi, rfl, hpl, s⟩
  have rE := (s.pull 1 rfl).row
  simp (disch := omega) only [WA, ↓reduceIte, jA, jB, jD, jE, jF, jG, jH, jI, jJ, e15, e16]
  by_cases c : i < E.length
  · have c1 : (i : Int) < (E.length : Int) := by omega
    obtain ⟨ed, hed⟩ := get_some c
    obtain ⟨xs, X1, X2⟩ := rE.at hed
    have gE := hEg ed (List.mem_of_getElem? hed)
    obtain ⟨rfl, _⟩ := here_Ed X2
    have X1 : cellsAt h3 (rowB vE) (rowO vE + i * 7) 7 = some (edC ed) := X1
    have s := s.newBlk (edC ed) 102 true
    have gg := s.rdAll (n := 7) rfl
    simp (disch := omega) only [WA, ↓reduceIte, jA, jB, jD, jE, jF, jG, jH, jI, jJ, c1, e14, e16, rE.isRow.ix, X1, e0, gg]
    refine .inl ⟨by kernel_rfl, ?_⟩; refine imSides_c gE rfl fun vs h4 t4 => ?_
    have s := s.add t4
    simp (disch := omega) only [WA, ↓reduceIte, jA, jB, jD, jE, jF, jG, jH, jI, jJ, e0]
    refine .inl ⟨by kernel_rfl, ?_⟩; refine imReason_c (rS.mono s.ext) (s.pull 0 rfl).row hS (sides_good gE) fun h5 E5 => ?_
    have s := s.mono E5
    cases hr : reasM S (sidesM ed) with
    | none =>
      obtain ⟨p1, _⟩ := preM_none hpl hed hr
      rw [p1] at hQ
      simp (disch := omega) only [WA, ↓reduceIte, jA, jB, jD, jE, jF, jG, jH, jI, jJ, e7, Option.isSome_none, Option.getD_none]
      exact hQ _ _ (s.pull 2 rfl).head
    | some r =>
      obtain ⟨p1, p2⟩ := preM_some hpl hed hr
      have hr4 : r < 4 := by unfold reasM at hr; exact List.mem_range.1 (List.mem_of_find?_eq_some hr)
      simp (disch := omega) only [WA, ↓reduceIte, jA, jB, jD, jE, jF, jG, jH, jI, jJ, e7, Option.isSome_some, Option.getD_some]
      have s := ((s.pull 2 rfl).rep0 (x := (r : Int)) (rep_int ⟨by omega, by omega⟩)).swap
      refine sep_append (y := (r : Int)) s rfl rfl te23 tk3 rfl (by decide) (by rw [hpl]; simp only []; omega) fun w5 h6 s => ?_
      simp (disch := omega) only [WA, ↓reduceIte, jA, jB, jD, jE, jF, jG, jH, jI, jJ, e16, wrap_in]
      refine ⟨_, by omega, i + 1, w5, e0, rfl, e14, e15, by simp, by omega, rfl, p2, ?_⟩
      rw [p1]
      exact s.tail.tail.tail.pull 0 rfl |> fun _ => (s.swap.tail.swap.tail)
  · obtain rfl : i = E.length := by omega
    have c1 : ¬ (E.length : Int) < (E.length : Int) := by omega
    rw [List.take_length] at s
    simp (disch := omega) only [WA, ↓reduceIte, jA, jB, jD, jE, jF, jG, jH, jI, jJ, c1, e7]
    exact hQ _ _ s.head
end Go.Proofs
end

section
set_option linter.unusedSimpArgs false
set_option linter.unusedVariables false
set_option maxRecDepth 4000
namespace Go.Proofs
open Go Go.V
open Nat renaming reduceEqDiff → jA, reduceAdd → jB, reduceMul → jD, reduceSub → jE, reduceLeDiff → jF
open Int renaming reduceLT → jG, reduceLE → jH, reduceNeg → jI, reduceEq → jJ
/- How often reasons go around. -/
theorem imAll_c {S : List (List Tm)} {b : Bx} {v : Value} {cs : List Value} {k d : Nat} {x y z w : Int} {h : Heap} {Q : Value → Heap → Prop} (rS : Row h S v) (hS : twoB S = true) (hb : Here h b cs) (g : PlG b k x y z w) (hd : d ≤ 5)
    (hQ : ∀ v h', Sep h h' [ownA 3 ((allM S (edgesM x y z w k d)).getD []) v] → Q (.tuple #[v, .bool (allM S (edgesM x y z w k d)).isSome]) h') : CallsV Tryz.prog 53 [v, .agg cs.toArray, .int .i64 d] h Q := by
  obtain ⟨v1, v2, rfl, _⟩ := here_Bx hb
  refine CallsV.start Tryz.func53 rfl (by rw [Tryz.results53]) (by kernel_rfl) (by rw [Tryz.ntmps53]; simp) ?_
  have s := Sep.blk1 h [.int .i64 b.k, v1, v2] 32 true
  have ga := s.rdAll (n := 3) rfl
  simp (disch := omega) only [WA, ↓reduceIte, jA, jB, jD, jE, jF, jG, jH, jI, jJ, ga]
  refine .inl ⟨by kernel_rfl, ?_⟩; refine imReasons_c (rS.mono s.ext) hS (hb.mono s.ext) g hd fun vo h1 t1 => ?_
  have s := s.add t1
  have r1 := (s.pull 0 rfl).row
  have hEl := edgesM_len x y z w k d
  obtain ⟨N, eN, eN', hN1, hN2⟩ := pow_d hd
  rw [eN'] at hEl
  have hle := preM_le (S := S) (a := edgesM x y z w k d)
  unfold allM at hQ
  simp (disch := omega) only [WA, ↓reduceIte, jA, jB, jD, jE, jF, jG, jH, jI, jJ, r1.isRow.len]
  refine .inl ⟨by kernel_rfl, ?_⟩; refine dyPow_c (by omega) ?_
  have w1 := wrap_in (4 * (N : Int)) (by omega)
  simp (disch := omega) only [WA, ↓reduceIte, jA, jB, jD, jE, jF, jG, jH, jI, jJ, eN, w1]
  by_cases c : (preM S (edgesM x y z w k d)).length = (edgesM x y z w k d).length
  · have c1 : ¬ ((preM S (edgesM x y z w k d)).length : Int) < 4 * (N : Int) := by omega
    rw [if_pos c] at hQ
    have pl := r1.isRow.plain
    simp (disch := omega) only [WA, ↓reduceIte, jA, jB, jD, jE, jF, jG, jH, jI, jJ, c1, pl]
    exact hQ _ _ s.head
  · have c1 : ((preM S (edgesM x y z w k d)).length : Int) < 4 * (N : Int) := by omega
    rw [if_neg c] at hQ
    simp (disch := omega) only [WA, ↓reduceIte, jA, jB, jD, jE, jF, jG, jH, jI, jJ, c1]
    exact hQ _ _ (Sep.nilA (Sep.nil s.ext) _)
def stepT (l : List Int) (i : Nat) : Int := Int.tmod (l.getD ((i + 1) % l.length) 0 - l.getD i 0 + 4) 4
def dT (s : Int) : Int := if s = 1 then 1 else if s = 3 then -1 else 0
def sumT (l : List Int) : Nat → Int
  | 0 => 0
  | i + 1 => sumT l i + dT (stepT l i)
def okT (l : List Int) : Prop := ∀ i < l.length, stepT l i ≠ 2
instance (l : List Int) : Decidable (okT l) := by unfold okT; infer_instance
def turnsM (l : List Int) : Int × Bool := if okT l then (Int.tdiv (sumT l l.length) 4, true) else (0, false)
def RsG (l : List Int) : Prop := ∀ x ∈ l, 0 ≤ x ∧ x ≤ 3
theorem getD_in {l : List Int} (h : RsG l) {i : Nat} (hi : i < l.length) : l[i]? = some (l.getD i 0) ∧ 0 ≤ l.getD i 0 ∧ l.getD i 0 ≤ 3 := by
  have e : l[i]? = some (l.getD i 0) := by rw [List.getD_eq_getElem?_getD, List.getElem?_eq_getElem hi]; rfl
  exact ⟨e, h _ (List.mem_of_getElem? e)⟩
theorem stepT_in {l : List Int} (h : RsG l) {i : Nat} (hi : i < l.length) : stepT l i = (l.getD ((i + 1) % l.length) 0 - l.getD i 0 + 4) % 4 ∧ 0 ≤ stepT l i ∧ stepT l i ≤ 3 := by
  obtain ⟨_, h1, h2⟩ := getD_in h hi
  obtain ⟨_, h3, h4⟩ := getD_in h (Nat.mod_lt (i + 1) (show l.length > 0 by omega))
  have e : stepT l i = (l.getD ((i + 1) % l.length) 0 - l.getD i 0 + 4) % 4 := by
    unfold stepT
    rw [Int.tmod_eq_emod_of_nonneg (by omega)]
  rw [e]
  exact ⟨rfl, by omega, by omega⟩
theorem sumT_in (l : List Int) (i : Nat) : -(i : Int) ≤ sumT l i ∧ sumT l i ≤ i := by
  induction i with
  | zero => exact ⟨by simp [sumT], by simp [sumT]⟩
  | succ i ih =>
    have : -1 ≤ dT (stepT l i) ∧ dT (stepT l i) ≤ 1 := by unfold dT; split; decide; split <;> decide
    show -((i + 1 : Nat) : Int) ≤ sumT l i + dT (stepT l i) ∧ sumT l i + dT (stepT l i) ≤ ((i + 1 : Nat) : Int)
    omega
theorem sumT_mod {l : List Int} (h : RsG l) : ∀ i, i ≤ l.length → (∀ j < i, stepT l j ≠ 2) → (sumT l i - (l.getD (i % l.length) 0 - l.getD 0 0)) % 4 = 0 := by
  intro i
  induction i with
  | zero => intro _ _; rw [Nat.zero_mod]; show (0 - (l.getD 0 0 - l.getD 0 0)) % 4 = 0; omega
  | succ i ih =>
    intro hi hno
    have h1 := ih (by omega) fun j hj => hno j (by omega)
    rw [Nat.mod_eq_of_lt (show i < l.length by omega)] at h1
    obtain ⟨e, e1, e2⟩ := stepT_in h (show i < l.length by omega)
    have h2 := hno i (by omega)
    show (sumT l i + dT (stepT l i) - (l.getD ((i + 1) % l.length) 0 - l.getD 0 0)) % 4 = 0
    generalize stepT l i = s at *
    unfold dT
    have : s = 0 ∨ s = 1 ∨ s = 3 := by omega
    rcases this with rfl | rfl | rfl <;> simp only [Int.reduceEq, reduceIte] <;> omega
theorem sumT_four {l : List Int} (h : RsG l) (hok : okT l) : sumT l l.length % 4 = 0 := by
  have := sumT_mod h l.length (Nat.le_refl _) hok
  rw [Nat.mod_self] at this
  omega
theorem imTurns_c {l : List Int} {v : Value} {h : Heap} {Q : Value → Heap → Prop} (r : Row h l v) (hr : RsG l) (h128 : l.length ≤ 128) (hQ : Q (.tuple #[.int .i64 (turnsM l).1, .bool (turnsM l).2]) h) : CallsV Tryz.prog 54 [v] h Q := by
  refine CallsV.start Tryz.func54 rfl (by rw [Tryz.results54]) (by kernel_rfl) (by rw [Tryz.ntmps54]; simp) ?_
  simp (disch := omega) only [WA, ↓reduceIte, jA, jB, jD, jE, jF, jG, jH, jI, jJ, r.isRow.len]
  refine loop_rule (fun m e h' => ∃ (i : Nat), e 0 = v ∧ e 7 = v ∧ e 8 = .int .i64 l.length ∧ e 9 = .int .i64 i ∧ e 4 = .int .i64 (sumT l i) ∧ i ≤ l.length ∧ m = l.length - i ∧ (∀ j < i, stepT l j ≠ 2) ∧ h' = h) ?_ l.length _ _
    ⟨0, rfl, rfl, rfl, rfl, rfl, by omega, by omega, by omega, rfl⟩
  rintro m e h3 ⟨i, e0, e7, e8, e9, e4, hi, rfl, hno, rfl⟩
  simp (disch := omega) only [WA, ↓reduceIte, jA, jB, jD, jE, jF, jG, jH, jI, jJ, e8, e9]
  by_cases c : i < l.length
  · have c1 : (i : Int) < (l.length : Int) := by omega
    obtain ⟨g1, g2, g3⟩ := getD_in hr c
    obtain ⟨g4, g5, g6⟩ := getD_in hr (Nat.mod_lt (i + 1) (show l.length > 0 by omega))
    obtain ⟨e1, e2, e3⟩ := stepT_in hr c
    have X1 := (row_int r g1).1
    have X2 := (row_int r g4).1
    have w1 := wrap_in ((i : Int) + 1) (by omega)
    have n0 : ¬ (l.length : Int) = 0 := by omega
    have tm : Int.tmod ((i : Int) + 1) (l.length : Int) = (((i + 1) % l.length : Nat) : Int) := by rw [Int.tmod_eq_emod_of_nonneg (by omega)]; norm_cast
    have hm := Nat.mod_lt (i + 1) (show l.length > 0 by omega)
    have q2 : (((i + 1) % l.length : Nat) : Int) < (l.length : Int) := by omega
    have w2 := wrap_in (l.getD ((i + 1) % l.length) 0 - l.getD i 0) (by omega)
    have w3 := wrap_in (l.getD ((i + 1) % l.length) 0 - l.getD i 0 + 4) (by omega)
    have est : Int.tmod (l.getD ((i + 1) % l.length) 0 - l.getD i 0 + 4) 4 = stepT l i := rfl
    have hsum := sumT_in l i
    have esum : sumT l (i + 1) = sumT l i + dT (stepT l i) := rfl
    generalize hq : (i + 1) % l.length = q at *
    simp (disch := omega) only [WA, ↓reduceIte, jA, jB, jD, jE, jF, jG, jH, jI, jJ, c1, e0, e7, e8, e9, r.isRow.ix, X1, r.isRow.len, w1, n0, tm, q2, X2, w2, w3, est]
    have : stepT l i = 0 ∨ stepT l i = 1 ∨ stepT l i = 2 ∨ stepT l i = 3 := by omega
    have nxt : stepT l i ≠ 2 → ∀ j < i + 1, stepT l j ≠ 2 := fun hne j hj => by
      by_cases e : j = i
      · rw [e]; exact hne
      · exact hno j (by omega)
    rcases this with h0 | h0 | h0 | h0
    · simp (disch := omega) only [WA, ↓reduceIte, jA, jB, jD, jE, jF, jG, jH, jI, jJ, h0, e9, w1]
      refine ⟨_, by omega, i + 1, e0, e7, e8, by simp, ?_, by omega, rfl, nxt (by omega)⟩
      rw [esum, h0]
      show e 4 = .int .i64 (sumT l i + 0)
      rw [Int.add_zero]; exact e4
    · have w5 := wrap_in (sumT l i + 1) (by omega)
      simp (disch := omega) only [WA, ↓reduceIte, jA, jB, jD, jE, jF, jG, jH, jI, jJ, h0, e4, e9, w1, w5]
      refine ⟨_, by omega, i + 1, e0, e7, e8, by simp, ?_, by omega, rfl, nxt (by omega)⟩
      rw [esum, h0]; rfl
    · have hno2 : ¬ okT l := fun ho => ho i c h0
      unfold turnsM at hQ
      rw [if_neg hno2] at hQ
      simp (disch := omega) only [WA, ↓reduceIte, jA, jB, jD, jE, jF, jG, jH, jI, jJ, h0]
      exact hQ
    · have w5 := wrap_in (sumT l i - 1) (by omega)
      simp (disch := omega) only [WA, ↓reduceIte, jA, jB, jD, jE, jF, jG, jH, jI, jJ, h0, e4, e9, w1, w5]
      refine ⟨_, by omega, i + 1, e0, e7, e8, by simp, ?_, by omega, rfl, nxt (by omega)⟩
      rw [esum, h0]; rfl
  · obtain rfl : i = l.length := by omega
    have c1 : ¬ (l.length : Int) < (l.length : Int) := by omega
    have h4 := sumT_four hr hno
    have t4 : Int.tmod (sumT l l.length) 4 = 0 := Int.tmod_eq_zero_of_dvd (Int.dvd_of_emod_eq_zero h4)
    have hsum := sumT_in l l.length
    have hb : -128 ≤ Int.tdiv (sumT l l.length) 4 ∧ Int.tdiv (sumT l l.length) 4 ≤ 128 := by
      have := Int.natAbs_tdiv_le_natAbs (sumT l l.length) 4
      omega
    have w6 := wrap_in (Int.tdiv (sumT l l.length) 4) (by omega)
    unfold turnsM at hQ
    have hok : okT l := hno
    rw [if_pos hok] at hQ
    simp (disch := omega) only [WA, ↓reduceIte, jA, jB, jD, jE, jF, jG, jH, jI, jJ, c1, e4, t4, w6]
    exact hQ
end Go.Proofs
end

/- Contracts of functions, facts of types, or the plain law behind one statement (own work): UA. Conditions: those told in each theorem. -/
import Derived.Test.YtlnephhhcofilaaGreatIZ
set_option linter.all false
set_option linter.unusedSimpArgs false
set_option linter.unusedVariables false
set_option maxRecDepth 4000
namespace Go.Proofs
open Go Go.V
/- The reasons of all edges. -/
def preM (S : List (List Tm)) : List Ed → List Int
  | [] => []
  | e :: l => match reasM S (sidesM e) with
    | some r => (r : Int) :: preM S l
    | none => []
def allM (S : List (List Tm)) (E : List Ed) : Option (List Int) := if (preM S E).length = E.length then some (preM S E) else none
theorem preM_append {S : List (List Tm)} : ∀ {a b : List Ed}, (preM S a).length = a.length → preM S (a ++ b) = preM S a ++ preM S b
  | [], b, _ => rfl
  | e :: a, b, h => by
    simp only [preM, List.cons_append] at *
    cases hr : reasM S (sidesM e) with
    | none => rw [hr] at h; simp at h
    | some r =>
      rw [hr] at h
      simp only [List.length_cons] at h
      simp only [List.cons_append]
      rw [preM_append (by omega)]
theorem preM_le {S : List (List Tm)} : ∀ {a : List Ed}, (preM S a).length ≤ a.length
  | [] => Nat.le_refl _
  | e :: a => by
    simp only [preM]
    cases hr : reasM S (sidesM e) with
    | none => simp
    | some r =>
      have := preM_le (S := S) (a := a)
      simp only [List.length_cons]; omega
theorem preM_in {S : List (List Tm)} : ∀ {a : List Ed}, ∀ x ∈ preM S a, 0 ≤ x ∧ x ≤ 3
  | [], x, hx => by simp [preM] at hx
  | e :: a, x, hx => by
    simp only [preM] at hx
    cases hr : reasM S (sidesM e) with
    | none => rw [hr] at hx; simp at hx
    | some r =>
      rw [hr] at hx
      rcases List.mem_cons.1 hx with rfl | hx
      · unfold reasM at hr
        have := List.mem_range.1 (List.mem_of_find?_eq_some hr)
        omega
      · exact preM_in x hx
theorem preM_some {S : List (List Tm)} {E : List Ed} {i : Nat} {e : Ed} {r : Nat} (h : (preM S (E.take i)).length = i) (hi : E[i]? = some e) (hr : reasM S (sidesM e) = some r) :
    preM S (E.take (i + 1)) = preM S (E.take i) ++ [(r : Int)] ∧ (preM S (E.take (i + 1))).length = i + 1 := by
  obtain ⟨hlt, _⟩ := List.getElem?_eq_some_iff.1 hi
  have e1 : preM S (E.take (i + 1)) = preM S (E.take i) ++ [(r : Int)] := by
    rw [List.take_add_one, hi, preM_append (by rw [List.length_take]; omega)]
    simp [preM, hr]
  rw [e1]
  exact ⟨rfl, by simp [h]⟩
theorem preM_none {S : List (List Tm)} {E : List Ed} {i : Nat} {e : Ed} (h : (preM S (E.take i)).length = i) (hi : E[i]? = some e) (hr : reasM S (sidesM e) = none) : preM S E = preM S (E.take i) ∧ allM S E = none := by
  obtain ⟨hlt, _⟩ := List.getElem?_eq_some_iff.1 hi
  have e1 : preM S E = preM S (E.take i) := by
    conv => lhs; rw [← List.take_append_drop i E]
    rw [preM_append (by rw [List.length_take]; omega), drop_cons hi]
    simp [preM, hr]
  refine ⟨e1, ?_⟩
  unfold allM
  rw [e1, if_neg (by omega)]
theorem imReasons_c {S : List (List Tm)} {b : Bx} {v : Value} {cs : List Value} {k d : Nat} {x y z w : Int} {h : Heap} {Q : Value → Heap → Prop} (rS : Row h S v) (hS : twoB S = true) (hb : Here h b cs) (g : PlG b k x y z w) (hd : d ≤ 5)
    (hQ : ∀ v h', Sep h h' [ownA 3 (preM S (edgesM x y z w k d)) v] → Q v h') : CallsV Tryz.prog 74 [v, .agg cs.toArray, .int .i64 d] h Q := by
  obtain ⟨v1, v2, rfl, _⟩ := here_Bx hb
  refine CallsV.start Tryz.func74 rfl (by rw [Tryz.results74]) (by kernel_rfl) (by rw [Tryz.ntmps74]; simp) ?_
  have s := Sep.blk1 h [.int .i64 b.k, v1, v2] 32 true
  have ga := s.rdAll (n := 3) rfl
  simp (disch := omega) only [VW, VY, VZ, VA, VB, VC, VE, TY, VL, ↓reduceIte, Nat.reduceEqDiff, Nat.reduceAdd, Nat.reduceMul, Nat.reduceSub, Nat.reduceLeDiff, Int.reduceLT, Int.reduceLE, Int.reduceNeg, Int.reduceEq, ga]
  refine .inl ⟨by kernel_rfl, ?_⟩; refine imEdges_c (hb.mono s.ext) g hd fun vE h1 t1 => ?_
  have s := s.add t1
  have rE := (s.pull 0 rfl).row
  have hEl := edgesM_len x y z w k d
  obtain ⟨N, eN, eN', hN1, hN2⟩ := pow_d hd
  rw [eN'] at hEl
  simp (disch := omega) only [VW, VY, VZ, VA, VB, VC, VE, TY, VL, ↓reduceIte, Nat.reduceEqDiff, Nat.reduceAdd, Nat.reduceMul, Nat.reduceSub, Nat.reduceLeDiff, Int.reduceLT, Int.reduceLE, Int.reduceNeg, Int.reduceEq, rE.isRow.len]
  have s := s.head.nilA (α := Int) 3
  generalize hE : edgesM x y z w k d = E at *
  have hEg : ∀ e ∈ E, EdG e := by rw [← hE]; exact edgesM_good
  refine loop_rule (fun m e h' => ∃ (i : Nat) (vo : Value), e 0 = v ∧ e 7 = vo ∧ e 14 = vE ∧ e 15 = .int .i64 E.length ∧ e 16 = .int .i64 i ∧ i ≤ E.length ∧ m = E.length - i ∧ (preM S (E.take i)).length = i ∧ Sep h h' [ownA 3 (preM S (E.take i)) vo, ownA 102 E vE]) ?_ E.length _ _
    ⟨0, _, rfl, rfl, rfl, rfl, rfl, by omega, by omega, by simp [preM], s⟩
  clear s rE ga
  rintro m e h3 ⟨i, vo, e0, e7, e14, e15, e16, hi, rfl, hpl, s⟩
  have rE := (s.pull 1 rfl).row
  simp (disch := omega) only [VW, VY, VZ, VA, VB, VC, VE, TY, VL, ↓reduceIte, Nat.reduceEqDiff, Nat.reduceAdd, Nat.reduceMul, Nat.reduceSub, Nat.reduceLeDiff, Int.reduceLT, Int.reduceLE, Int.reduceNeg, Int.reduceEq, e15, e16]
  by_cases c : i < E.length
  · have c1 : (i : Int) < (E.length : Int) := by omega
    obtain ⟨ed, hed⟩ := get_some c
    obtain ⟨xs, X1, X2⟩ := rE.at hed
    have gE := hEg ed (List.mem_of_getElem? hed)
    obtain ⟨rfl, _⟩ := here_Ed X2
    have X1 : cellsAt h3 (rowB vE) (rowO vE + i * 7) 7 = some (edC ed) := X1
    have s := s.newBlk (edC ed) 102 true
    have gg := s.rdAll (n := 7) rfl
    simp (disch := omega) only [VW, VY, VZ, VA, VB, VC, VE, TY, VL, ↓reduceIte, Nat.reduceEqDiff, Nat.reduceAdd, Nat.reduceMul, Nat.reduceSub, Nat.reduceLeDiff, Int.reduceLT, Int.reduceLE, Int.reduceNeg, Int.reduceEq, c1, e14, e16, rE.isRow.ix, X1, e0, gg]
    refine .inl ⟨by kernel_rfl, ?_⟩; refine imSides_c gE rfl fun vs h4 t4 => ?_
    have s := s.add t4
    simp (disch := omega) only [VW, VY, VZ, VA, VB, VC, VE, TY, VL, ↓reduceIte, Nat.reduceEqDiff, Nat.reduceAdd, Nat.reduceMul, Nat.reduceSub, Nat.reduceLeDiff, Int.reduceLT, Int.reduceLE, Int.reduceNeg, Int.reduceEq, e0]
    refine .inl ⟨by kernel_rfl, ?_⟩; refine imReason_c (rS.mono s.ext) (s.pull 0 rfl).row hS (sides_good gE) fun h5 E5 => ?_
    have s := s.mono E5
    cases hr : reasM S (sidesM ed) with
    | none =>
      obtain ⟨p1, _⟩ := preM_none hpl hed hr
      rw [p1] at hQ
      simp (disch := omega) only [VW, VY, VZ, VA, VB, VC, VE, TY, VL, ↓reduceIte, Nat.reduceEqDiff, Nat.reduceAdd, Nat.reduceMul, Nat.reduceSub, Nat.reduceLeDiff, Int.reduceLT, Int.reduceLE, Int.reduceNeg, Int.reduceEq, e7, Option.isSome_none, Option.getD_none]
      exact hQ _ _ (s.pull 2 rfl).head
    | some r =>
      obtain ⟨p1, p2⟩ := preM_some hpl hed hr
      have hr4 : r < 4 := by unfold reasM at hr; exact List.mem_range.1 (List.mem_of_find?_eq_some hr)
      simp (disch := omega) only [VW, VY, VZ, VA, VB, VC, VE, TY, VL, ↓reduceIte, Nat.reduceEqDiff, Nat.reduceAdd, Nat.reduceMul, Nat.reduceSub, Nat.reduceLeDiff, Int.reduceLT, Int.reduceLE, Int.reduceNeg, Int.reduceEq, e7, Option.isSome_some, Option.getD_some]
      have s := ((s.pull 2 rfl).rep0 (x := (r : Int)) (rep_int ⟨by omega, by omega⟩)).swap
      refine sep_append (y := (r : Int)) s rfl rfl te23 tk3 rfl (by decide) (by rw [hpl]; simp only []; omega) fun w5 h6 s => ?_
      simp (disch := omega) only [VW, VY, VZ, VA, VB, VC, VE, TY, VL, ↓reduceIte, Nat.reduceEqDiff, Nat.reduceAdd, Nat.reduceMul, Nat.reduceSub, Nat.reduceLeDiff, Int.reduceLT, Int.reduceLE, Int.reduceNeg, Int.reduceEq, e16, wrap_in]
      refine ⟨_, by omega, i + 1, w5, e0, rfl, e14, e15, by simp, by omega, rfl, p2, ?_⟩
      rw [p1]
      exact s.tail.tail.tail.pull 0 rfl |> fun _ => (s.swap.tail.swap.tail)
  · obtain rfl : i = E.length := by omega
    have c1 : ¬ (E.length : Int) < (E.length : Int) := by omega
    rw [List.take_length] at s
    simp (disch := omega) only [VW, VY, VZ, VA, VB, VC, VE, TY, VL, ↓reduceIte, Nat.reduceEqDiff, Nat.reduceAdd, Nat.reduceMul, Nat.reduceSub, Nat.reduceLeDiff, Int.reduceLT, Int.reduceLE, Int.reduceNeg, Int.reduceEq, c1, e7]
    exact hQ _ _ s.head
end Go.Proofs

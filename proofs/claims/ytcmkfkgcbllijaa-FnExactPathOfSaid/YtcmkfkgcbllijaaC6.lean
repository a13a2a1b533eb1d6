/- Contracts of functions, facts of types, or the plain law behind one statement (own work): C6. Conditions: those told in each theorem. -/
import Derived.Test.YtcmkfkgcbllijaaC5
set_option linter.all false
set_option linter.unusedSimpArgs false
set_option maxRecDepth 4000
namespace Go.Proofs
open Go Go.V

def goodM (l : List Nd) (s : Int) : Bool := decide (1 ≤ s ∧ s ≤ 3) && decide (1 ≤ l.length ∧ l.length ≤ 200) && decide (prsM s 21 l = some [])

theorem endR_eq {l : List Nd} {o : Option (List Nd)} : endR l.length o = l.length ↔ o = some [] := by
  cases o with
  | none => simp [endR]
  | some r =>
    simp only [endR, Option.some.injEq]
    constructor
    · intro h; exact List.length_eq_zero_iff.1 (by omega)
    · rintro rfl; simp

theorem trGood_c {l : List Nd} {s : Int} {v : Value} {h : Heap} {Q : Value → Heap → Prop} (hl : Row h l v) (hn : l.length ≤ 1000000) (hQ : ∀ h', Ext h h' → Q (.bool (goodM l s)) h') :
    CallsV Try.prog 34 [v, .int .i64 s] h Q := by
  refine CallsV.start Try.func34 rfl (by rw [Try.results34]) (by kernel_rfl) (by rw [Try.ntmps34]; simp) ?_
  unfold goodM at hQ
  simp (disch := omega) only [VW, VY, VZ, TY, ↓reduceIte, Nat.reduceEqDiff, Nat.reduceAdd, Nat.reduceMul, Nat.reduceSub, Nat.reduceLeDiff, List.length_cons, List.length_nil, List.length_append, List.append_assoc, List.take_succ_cons, List.take_zero, List.drop_succ_cons, List.drop_zero, List.set_cons_zero, List.set_cons_succ, true_or, or_true, and_self, Bool.false_eq_true, Nat.le_refl, Option.bind_some, Option.map_some, Option.getD_some, Option.isSome_some, List.map_cons, List.map_nil, List.cons_append, List.nil_append, List.append_nil, List.getElem?_cons_zero, List.getElem?_cons_succ, eq_self, Int.reduceLT, Int.reduceLE, Int.reduceNeg, Int.reduceEq]
  refine .inl ⟨by kernel_rfl, ?_⟩; refine l1In_c ?_
  by_cases h1 : 1 ≤ s ∧ s ≤ 3
  · rw [decide_eq_true h1] at hQ ⊢
    simp (disch := omega) only [VW, VY, VZ, TY, ↓reduceIte, Nat.reduceEqDiff, Nat.reduceAdd, Nat.reduceMul, Nat.reduceSub, Nat.reduceLeDiff, List.length_cons, List.length_nil, List.length_append, List.append_assoc, List.take_succ_cons, List.take_zero, List.drop_succ_cons, List.drop_zero, List.set_cons_zero, List.set_cons_succ, true_or, or_true, and_self, Bool.false_eq_true, Nat.le_refl, Option.bind_some, Option.map_some, Option.getD_some, Option.isSome_some, List.map_cons, List.map_nil, List.cons_append, List.nil_append, List.append_nil, List.getElem?_cons_zero, List.getElem?_cons_succ, eq_self, Int.reduceLT, Int.reduceLE, Int.reduceNeg, Int.reduceEq, hl.isRow.len]
    refine .inl ⟨by kernel_rfl, ?_⟩; refine l1In_c ?_
    have e : ((1 : Int) ≤ (l.length : Int) ∧ (l.length : Int) ≤ 200) ↔ (1 ≤ l.length ∧ l.length ≤ 200) := by omega
    by_cases h2 : 1 ≤ l.length ∧ l.length ≤ 200
    · rw [decide_eq_true (e.2 h2)]
      rw [decide_eq_true h2] at hQ
      simp (disch := omega) only [VW, VY, VZ, TY, ↓reduceIte, Nat.reduceEqDiff, Nat.reduceAdd, Nat.reduceMul, Nat.reduceSub, Nat.reduceLeDiff, List.length_cons, List.length_nil, List.length_append, List.append_assoc, List.take_succ_cons, List.take_zero, List.drop_succ_cons, List.drop_zero, List.set_cons_zero, List.set_cons_succ, true_or, or_true, and_self, Bool.false_eq_true, Nat.le_refl, Option.bind_some, Option.map_some, Option.getD_some, Option.isSome_some, List.map_cons, List.map_nil, List.cons_append, List.nil_append, List.append_nil, List.getElem?_cons_zero, List.getElem?_cons_succ, eq_self, Int.reduceLT, Int.reduceLE, Int.reduceNeg, Int.reduceEq]
      refine .inl ⟨by kernel_rfl, ?_⟩; refine trEnd_c hn h1 21 0 0 _ _ hl rfl (Nat.zero_le _) fun h2 E2 => ?_
      simp (disch := omega) only [VW, VY, VZ, TY, ↓reduceIte, Nat.reduceEqDiff, Nat.reduceAdd, Nat.reduceMul, Nat.reduceSub, Nat.reduceLeDiff, List.length_cons, List.length_nil, List.length_append, List.append_assoc, List.take_succ_cons, List.take_zero, List.drop_succ_cons, List.drop_zero, List.set_cons_zero, List.set_cons_succ, true_or, or_true, and_self, Bool.false_eq_true, Nat.le_refl, Option.bind_some, Option.map_some, Option.getD_some, Option.isSome_some, List.map_cons, List.map_nil, List.cons_append, List.nil_append, List.append_nil, List.getElem?_cons_zero, List.getElem?_cons_succ, eq_self, Int.reduceLT, Int.reduceLE, Int.reduceNeg, Int.reduceEq, hl.isRow.len]
      have := hQ _ E2
      rw [show decide (endR l.length (prsM s 21 l) = (l.length : Int)) = decide (prsM s 21 l = some []) from decide_eq_decide.2 endR_eq]
      simpa using this
    · rw [decide_eq_false (fun x => h2 (e.1 x))]
      rw [decide_eq_false h2] at hQ
      simp (disch := omega) only [VW, VY, VZ, TY, ↓reduceIte, Nat.reduceEqDiff, Nat.reduceAdd, Nat.reduceMul, Nat.reduceSub, Nat.reduceLeDiff, List.length_cons, List.length_nil, List.length_append, List.append_assoc, List.take_succ_cons, List.take_zero, List.drop_succ_cons, List.drop_zero, List.set_cons_zero, List.set_cons_succ, true_or, or_true, and_self, Bool.false_eq_true, Nat.le_refl, Option.bind_some, Option.map_some, Option.getD_some, Option.isSome_some, List.map_cons, List.map_nil, List.cons_append, List.nil_append, List.append_nil, List.getElem?_cons_zero, List.getElem?_cons_succ, eq_self, Int.reduceLT, Int.reduceLE, Int.reduceNeg, Int.reduceEq]
      simpa using hQ _ (.refl _)
  · rw [decide_eq_false h1] at hQ ⊢
    simp (disch := omega) only [VW, VY, VZ, TY, ↓reduceIte, Nat.reduceEqDiff, Nat.reduceAdd, Nat.reduceMul, Nat.reduceSub, Nat.reduceLeDiff, List.length_cons, List.length_nil, List.length_append, List.append_assoc, List.take_succ_cons, List.take_zero, List.drop_succ_cons, List.drop_zero, List.set_cons_zero, List.set_cons_succ, true_or, or_true, and_self, Bool.false_eq_true, Nat.le_refl, Option.bind_some, Option.map_some, Option.getD_some, Option.isSome_some, List.map_cons, List.map_nil, List.cons_append, List.nil_append, List.append_nil, List.getElem?_cons_zero, List.getElem?_cons_succ, eq_self, Int.reduceLT, Int.reduceLE, Int.reduceNeg, Int.reduceEq]
    simpa using hQ _ (.refl _)

/-- What the program asks of a tree. -/
def isTreeM (l : List Nd) (s : Int) : Bool := decide (1 ≤ s ∧ s ≤ 3) && decide (l.length ≤ 200) && decide (endM l 1 = some []) && ((pathsM l [bE]).zip l).all fun x => okM s x.2 && decide (x.1.size ≤ 20)

theorem pathsM_length : ∀ (l : List Nd) (st : List ByteArray), endM l st.length = some [] → (pathsM l st).length = l.length := by
  intro l
  induction l with
  | nil => intro st _; simp [pathsM]
  | cons x l ih =>
    intro st h
    cases st with
    | nil => simp [endM] at h
    | cons q st =>
      simp only [List.length_cons, endM] at h
      simp only [pathsM, List.length_cons]
      rw [ih]
      split
      · rename_i hk; rw [if_pos hk] at h; exact h
      · rename_i hk; rw [if_neg hk] at h; exact h

theorem isTree_c {l : List Nd} {s : Int} {v : Value} {h : Heap} {Q : Value → Heap → Prop} (hl : Row h l v) (hn : l.length ≤ 1000000) (hQ : ∀ h', Ext h h' → Q (.bool (isTreeM l s)) h') :
    CallsV Try.prog 38 [v, .int .i64 s] h Q := by
  refine CallsV.start Try.func38 rfl (by rw [Try.results38]) (by kernel_rfl) (by rw [Try.ntmps38]; simp) ?_
  unfold isTreeM at hQ
  simp (disch := omega) only [VW, VY, VZ, TY, ↓reduceIte, Nat.reduceEqDiff, Nat.reduceAdd, Nat.reduceMul, Nat.reduceSub, Nat.reduceLeDiff, List.length_cons, List.length_nil, List.length_append, List.append_assoc, List.take_succ_cons, List.take_zero, List.drop_succ_cons, List.drop_zero, List.set_cons_zero, List.set_cons_succ, true_or, or_true, and_self, Bool.false_eq_true, Nat.le_refl, Option.bind_some, Option.map_some, Option.getD_some, Option.isSome_some, List.map_cons, List.map_nil, List.cons_append, List.nil_append, List.append_nil, List.getElem?_cons_zero, List.getElem?_cons_succ, eq_self, Int.reduceLT, Int.reduceLE, Int.reduceNeg, Int.reduceEq]
  refine .inl ⟨by kernel_rfl, ?_⟩; refine inside_c ?_
  by_cases h1 : 1 ≤ s ∧ s ≤ 3
  · rw [decide_eq_true h1] at hQ ⊢
    by_cases h2 : l.length ≤ 200
    · have c2 : ¬ (200 : Int) < (l.length : Int) := by omega
      rw [decide_eq_true h2] at hQ
      simp (disch := omega) only [VW, VY, VZ, TY, ↓reduceIte, Nat.reduceEqDiff, Nat.reduceAdd, Nat.reduceMul, Nat.reduceSub, Nat.reduceLeDiff, List.length_cons, List.length_nil, List.length_append, List.append_assoc, List.take_succ_cons, List.take_zero, List.drop_succ_cons, List.drop_zero, List.set_cons_zero, List.set_cons_succ, true_or, or_true, and_self, Bool.false_eq_true, Nat.le_refl, Option.bind_some, Option.map_some, Option.getD_some, Option.isSome_some, List.map_cons, List.map_nil, List.cons_append, List.nil_append, List.append_nil, List.getElem?_cons_zero, List.getElem?_cons_succ, eq_self, Int.reduceLT, Int.reduceLE, Int.reduceNeg, Int.reduceEq, hl.isRow.len, c2]
      refine .inl ⟨by kernel_rfl, ?_⟩; refine treeEnd_c (p := 0) hl (Nat.zero_le _) hn ?_
      simp (disch := omega) only [VW, VY, VZ, TY, ↓reduceIte, Nat.reduceEqDiff, Nat.reduceAdd, Nat.reduceMul, Nat.reduceSub, Nat.reduceLeDiff, List.length_cons, List.length_nil, List.length_append, List.append_assoc, List.take_succ_cons, List.take_zero, List.drop_succ_cons, List.drop_zero, List.set_cons_zero, List.set_cons_succ, true_or, or_true, and_self, Bool.false_eq_true, Nat.le_refl, Option.bind_some, Option.map_some, Option.getD_some, Option.isSome_some, List.map_cons, List.map_nil, List.cons_append, List.nil_append, List.append_nil, List.getElem?_cons_zero, List.getElem?_cons_succ, eq_self, Int.reduceLT, Int.reduceLE, Int.reduceNeg, Int.reduceEq, hl.isRow.len]
      by_cases h3 : endM l 1 = some []
      · rw [decide_eq_true h3] at hQ
        have c3 : endR l.length (endM l 1) = (l.length : Int) := endR_eq.2 h3
        simp (disch := omega) only [VW, VY, VZ, TY, ↓reduceIte, Nat.reduceEqDiff, Nat.reduceAdd, Nat.reduceMul, Nat.reduceSub, Nat.reduceLeDiff, List.length_cons, List.length_nil, List.length_append, List.append_assoc, List.take_succ_cons, List.take_zero, List.drop_succ_cons, List.drop_zero, List.set_cons_zero, List.set_cons_succ, true_or, or_true, and_self, Bool.false_eq_true, Nat.le_refl, Option.bind_some, Option.map_some, Option.getD_some, Option.isSome_some, List.map_cons, List.map_nil, List.cons_append, List.nil_append, List.append_nil, List.getElem?_cons_zero, List.getElem?_cons_succ, eq_self, Int.reduceLT, Int.reduceLE, Int.reduceNeg, Int.reduceEq, c3]
        refine .inl ⟨by kernel_rfl, ?_⟩; refine pathsOf_c hl h2 h3 fun w h2' E2 rw' => ?_
        have plen := pathsM_length l [bE] h3
        have wl := rw'.isRow.len Try.prog
        have wi := rw'.isRow.ix Try.prog
        rw [plen] at wl wi
        simp (disch := omega) only [VW, VY, VZ, TY, ↓reduceIte, Nat.reduceEqDiff, Nat.reduceAdd, Nat.reduceMul, Nat.reduceSub, Nat.reduceLeDiff, List.length_cons, List.length_nil, List.length_append, List.append_assoc, List.take_succ_cons, List.take_zero, List.drop_succ_cons, List.drop_zero, List.set_cons_zero, List.set_cons_succ, true_or, or_true, and_self, Bool.false_eq_true, Nat.le_refl, Option.bind_some, Option.map_some, Option.getD_some, Option.isSome_some, List.map_cons, List.map_nil, List.cons_append, List.nil_append, List.append_nil, List.getElem?_cons_zero, List.getElem?_cons_succ, eq_self, Int.reduceLT, Int.reduceLE, Int.reduceNeg, Int.reduceEq, wl]
        refine loop_rule (fun n e h' => ∃ (i : Nat), e 0 = v ∧ e 1 = .int .i64 s ∧ e 23 = w ∧ e 24 = .int .i64 l.length ∧ e 25 = .int .i64 i ∧ i ≤ l.length ∧ n = l.length - i ∧ Ext h h' ∧ Ext h2' h' ∧
          ((pathsM l [bE]).zip l).all (fun x => okM s x.2 && decide (x.1.size ≤ 20)) = (((pathsM l [bE]).zip l).drop i).all (fun x => okM s x.2 && decide (x.1.size ≤ 20))) ?_ l.length _ _
          ⟨0, rfl, rfl, rfl, rfl, rfl, Nat.zero_le _, rfl, E2, .refl _, rfl⟩
        rintro n e h3' ⟨i, e0, e1, e23, e24, e25, hi, rfl, E3, E4, hall⟩
        simp (disch := omega) only [VW, VY, VZ, TY, ↓reduceIte, Nat.reduceEqDiff, Nat.reduceAdd, Nat.reduceMul, Nat.reduceSub, Nat.reduceLeDiff, List.length_cons, List.length_nil, List.length_append, List.append_assoc, List.take_succ_cons, List.take_zero, List.drop_succ_cons, List.drop_zero, List.set_cons_zero, List.set_cons_succ, true_or, or_true, and_self, Bool.false_eq_true, Nat.le_refl, Option.bind_some, Option.map_some, Option.getD_some, Option.isSome_some, List.map_cons, List.map_nil, List.cons_append, List.nil_append, List.append_nil, List.getElem?_cons_zero, List.getElem?_cons_succ, eq_self, Int.reduceLT, Int.reduceLE, Int.reduceNeg, Int.reduceEq, e0, e1, e23, e24, e25]
        by_cases hlt : i < l.length
        · obtain ⟨x, hx⟩ := get_some hlt
          obtain ⟨q, hq⟩ := get_some (show i < (pathsM l [bE]).length by omega)
          have c1 : (i : Int) < (l.length : Int) := by omega
          obtain ⟨_, _, x3, x4, x5⟩ := row_Nd (hl.mono E3) hx
          obtain ⟨q1, q2⟩ := row_str (rw'.mono E4) hq
          have hz : ((pathsM l [bE]).zip l)[i]? = some (q, x) := by rw [List.getElem?_zip_eq_some]; exact ⟨hq, hx⟩
          rw [drop_cons hz, List.all_cons] at hall
          simp (disch := omega) only [VW, VY, VZ, TY, ↓reduceIte, Nat.reduceEqDiff, Nat.reduceAdd, Nat.reduceMul, Nat.reduceSub, Nat.reduceLeDiff, List.length_cons, List.length_nil, List.length_append, List.append_assoc, List.take_succ_cons, List.take_zero, List.drop_succ_cons, List.drop_zero, List.set_cons_zero, List.set_cons_succ, true_or, or_true, and_self, Bool.false_eq_true, Nat.le_refl, Option.bind_some, Option.map_some, Option.getD_some, Option.isSome_some, List.map_cons, List.map_nil, List.cons_append, List.nil_append, List.append_nil, List.getElem?_cons_zero, List.getElem?_cons_succ, eq_self, Int.reduceLT, Int.reduceLE, Int.reduceNeg, Int.reduceEq, e0, e1, e23, e24, e25, c1, hl.isRow.ix, wi, x3, q1]
          refine .inl ⟨by kernel_rfl, ?_⟩; refine isNode_c h1 fun h4 E5 => ?_
          by_cases ho : okM s x = true
          · rw [ho]
            by_cases hs : q.size ≤ 20
            · have c5 : ¬ (20 : Int) < (q.size : Int) := by omega
              simp (disch := omega) only [VW, VY, VZ, TY, ↓reduceIte, Nat.reduceEqDiff, Nat.reduceAdd, Nat.reduceMul, Nat.reduceSub, Nat.reduceLeDiff, List.length_cons, List.length_nil, List.length_append, List.append_assoc, List.take_succ_cons, List.take_zero, List.drop_succ_cons, List.drop_zero, List.set_cons_zero, List.set_cons_succ, true_or, or_true, and_self, Bool.false_eq_true, Nat.le_refl, Option.bind_some, Option.map_some, Option.getD_some, Option.isSome_some, List.map_cons, List.map_nil, List.cons_append, List.nil_append, List.append_nil, List.getElem?_cons_zero, List.getElem?_cons_succ, eq_self, Int.reduceLT, Int.reduceLE, Int.reduceNeg, Int.reduceEq, e0, e1, e23, e24, e25, c5, wrap_in]
              refine ⟨_, ?_, i + 1, by simp, by omega, rfl, E3.trans E5, E4.trans E5, ?_⟩
              · omega
              · rw [hall]; simp [ho, hs]
            · have c5 : (20 : Int) < (q.size : Int) := by omega
              simp (disch := omega) only [VW, VY, VZ, TY, ↓reduceIte, Nat.reduceEqDiff, Nat.reduceAdd, Nat.reduceMul, Nat.reduceSub, Nat.reduceLeDiff, List.length_cons, List.length_nil, List.length_append, List.append_assoc, List.take_succ_cons, List.take_zero, List.drop_succ_cons, List.drop_zero, List.set_cons_zero, List.set_cons_succ, true_or, or_true, and_self, Bool.false_eq_true, Nat.le_refl, Option.bind_some, Option.map_some, Option.getD_some, Option.isSome_some, List.map_cons, List.map_nil, List.cons_append, List.nil_append, List.append_nil, List.getElem?_cons_zero, List.getElem?_cons_succ, eq_self, Int.reduceLT, Int.reduceLE, Int.reduceNeg, Int.reduceEq, c5]
              have := hQ _ (E3.trans E5)
              rw [hall] at this
              simpa [hs] using this
          · have ho' : okM s x = false := by simpa using ho
            rw [ho']
            simp (disch := omega) only [VW, VY, VZ, TY, ↓reduceIte, Nat.reduceEqDiff, Nat.reduceAdd, Nat.reduceMul, Nat.reduceSub, Nat.reduceLeDiff, List.length_cons, List.length_nil, List.length_append, List.append_assoc, List.take_succ_cons, List.take_zero, List.drop_succ_cons, List.drop_zero, List.set_cons_zero, List.set_cons_succ, true_or, or_true, and_self, Bool.false_eq_true, Nat.le_refl, Option.bind_some, Option.map_some, Option.getD_some, Option.isSome_some, List.map_cons, List.map_nil, List.cons_append, List.nil_append, List.append_nil, List.getElem?_cons_zero, List.getElem?_cons_succ, eq_self, Int.reduceLT, Int.reduceLE, Int.reduceNeg, Int.reduceEq]
            have := hQ _ (E3.trans E5)
            rw [hall] at this
            simpa [ho'] using this
        · obtain rfl : i = l.length := by omega
          have c1 : ¬ (l.length : Int) < (l.length : Int) := by omega
          simp (disch := omega) only [VW, VY, VZ, TY, ↓reduceIte, Nat.reduceEqDiff, Nat.reduceAdd, Nat.reduceMul, Nat.reduceSub, Nat.reduceLeDiff, List.length_cons, List.length_nil, List.length_append, List.append_assoc, List.take_succ_cons, List.take_zero, List.drop_succ_cons, List.drop_zero, List.set_cons_zero, List.set_cons_succ, true_or, or_true, and_self, Bool.false_eq_true, Nat.le_refl, Option.bind_some, Option.map_some, Option.getD_some, Option.isSome_some, List.map_cons, List.map_nil, List.cons_append, List.nil_append, List.append_nil, List.getElem?_cons_zero, List.getElem?_cons_succ, eq_self, Int.reduceLT, Int.reduceLE, Int.reduceNeg, Int.reduceEq, c1]
          have := hQ _ E3
          rw [hall, List.drop_of_length_le (by simp [plen])] at this
          simpa using this
      · rw [decide_eq_false h3] at hQ
        have c3 : ¬ endR l.length (endM l 1) = (l.length : Int) := fun e => h3 (endR_eq.1 e)
        simp (disch := omega) only [VW, VY, VZ, TY, ↓reduceIte, Nat.reduceEqDiff, Nat.reduceAdd, Nat.reduceMul, Nat.reduceSub, Nat.reduceLeDiff, List.length_cons, List.length_nil, List.length_append, List.append_assoc, List.take_succ_cons, List.take_zero, List.drop_succ_cons, List.drop_zero, List.set_cons_zero, List.set_cons_succ, true_or, or_true, and_self, Bool.false_eq_true, Nat.le_refl, Option.bind_some, Option.map_some, Option.getD_some, Option.isSome_some, List.map_cons, List.map_nil, List.cons_append, List.nil_append, List.append_nil, List.getElem?_cons_zero, List.getElem?_cons_succ, eq_self, Int.reduceLT, Int.reduceLE, Int.reduceNeg, Int.reduceEq, c3]
        simpa using hQ _ (.refl _)
    · have c2 : (200 : Int) < (l.length : Int) := by omega
      rw [decide_eq_false h2] at hQ
      simp (disch := omega) only [VW, VY, VZ, TY, ↓reduceIte, Nat.reduceEqDiff, Nat.reduceAdd, Nat.reduceMul, Nat.reduceSub, Nat.reduceLeDiff, List.length_cons, List.length_nil, List.length_append, List.append_assoc, List.take_succ_cons, List.take_zero, List.drop_succ_cons, List.drop_zero, List.set_cons_zero, List.set_cons_succ, true_or, or_true, and_self, Bool.false_eq_true, Nat.le_refl, Option.bind_some, Option.map_some, Option.getD_some, Option.isSome_some, List.map_cons, List.map_nil, List.cons_append, List.nil_append, List.append_nil, List.getElem?_cons_zero, List.getElem?_cons_succ, eq_self, Int.reduceLT, Int.reduceLE, Int.reduceNeg, Int.reduceEq, hl.isRow.len, c2]
      simpa using hQ _ (.refl _)
  · rw [decide_eq_false h1] at hQ ⊢
    simp (disch := omega) only [VW, VY, VZ, TY, ↓reduceIte, Nat.reduceEqDiff, Nat.reduceAdd, Nat.reduceMul, Nat.reduceSub, Nat.reduceLeDiff, List.length_cons, List.length_nil, List.length_append, List.append_assoc, List.take_succ_cons, List.take_zero, List.drop_succ_cons, List.drop_zero, List.set_cons_zero, List.set_cons_succ, true_or, or_true, and_self, Bool.false_eq_true, Nat.le_refl, Option.bind_some, Option.map_some, Option.getD_some, Option.isSome_some, List.map_cons, List.map_nil, List.cons_append, List.nil_append, List.append_nil, List.getElem?_cons_zero, List.getElem?_cons_succ, eq_self, Int.reduceLT, Int.reduceLE, Int.reduceNeg, Int.reduceEq]
    simpa using hQ _ (.refl _)
end Go.Proofs

/- Contracts of functions, facts of types, or the plain law behind one statement (own work): EN. Conditions: those told in each theorem. -/
import Derived.Test.YtajkecjbdoineaaEM
set_option linter.all false
set_option linter.unusedSimpArgs false
set_option linter.unusedVariables false
set_option maxRecDepth 4000
namespace Go.Proofs
open Go Go.V
open Nat (reduceEqDiff reduceAdd reduceMul reduceSub reduceLeDiff)
open Int (reduceLT reduceLE reduceNeg reduceEq)
/- Chains: the reference's walk; variations. -/
theorem stChain_c {P p : List Int} {v : Value} {h : Heap} {Q : Value → Heap → Prop} (r : Row h p v) (hP : Top P) (hp : InF P p)
    (hQ0 : chainM p = none → ∀ h', Ext h h' → Q (.tuple #[.slice none 0 0, .bool false]) h')
    (hQ : ∀ C v h', chainM p = some C → (∀ l ∈ C, Cel l) → C.length ≤ 14 → Row h' C v → Ext h h' → Q (.tuple #[v, .bool true]) h') : CallsV Try.prog 41 [v] h Q := by
  refine CallsV.start Try.func41 rfl (by rw [Try.results41]) (by kernel_rfl) (by rw [Try.ntmps41]; simp) ?_
  simp (disch := omega) only [WA, ↓reduceIte, reduceEqDiff, reduceAdd, reduceMul, reduceSub, reduceLeDiff, reduceLT, reduceLE, reduceNeg, reduceEq]
  refine .inl ⟨by kernel_rfl, ?_⟩; refine sgFree_c r hP hp fun v1 h1 s => ?_
  cases hf : freeL p with
  | none =>
    simp (disch := omega) only [WA, ↓reduceIte, reduceEqDiff, reduceAdd, reduceMul, reduceSub, reduceLeDiff, reduceLT, reduceLE, reduceNeg, reduceEq, Option.isSome_none]
    exact hQ0 (chain_none hf) _ s.ext
  | some f =>
    rw [hf] at s
    rw [Option.getD_some] at s
    obtain ⟨i1, i2⟩ := free_cop' hP hp hf
    have cf' := free_cel hP i1
    have rf := s.row
    have cu := rf.isRow.cells
    have E := s.ext
    have s1 := (s.toRep.newBlk [v1] 22 true)
    have s1 := Sep.blkOne s1.swap
    have rf1 := rf.mono (Ext.one h1 (some ⟨[v1], 22, false, true⟩))
    simp (disch := omega) only [WA, ↓reduceIte, reduceEqDiff, reduceAdd, reduceMul, reduceSub, reduceLeDiff, reduceLT, reduceLE, reduceNeg, reduceEq, Option.isSome_some, cu, rf1.isRow.len]
    generalize h1 ++ [some ⟨[v1], 22, false, true⟩] = H1 at s1 rf1 ⊢
    refine cond_join (fun e' h' => ∃ (out : List (List Int)) (b : List Int) (vo : Value), e' 6 = vo ∧ StC p out b ∧ Sep h h' [ownA 22 out vo]) (fun K' hK' => ?_) ?_
    · by_cases k : 1 < f.length
      · have k1 : (1 : Int) < (f.length : Int) := by omega
        simp (disch := omega) only [WA, ↓reduceIte, reduceEqDiff, reduceAdd, reduceMul, reduceSub, reduceLeDiff, reduceLT, reduceLE, reduceNeg, reduceEq, k1]
        refine .inl ⟨by kernel_rfl, ?_⟩; refine sgDerive_c rf1 cf'.sm fun v2 h2 t2 => ?_
        have s2 := s1.add t2
        simp (disch := omega) only [WA, ↓reduceIte, reduceEqDiff, reduceAdd, reduceMul, reduceSub, reduceLeDiff, reduceLT, reduceLE, reduceNeg, reduceEq]
        refine .inl ⟨by kernel_rfl, ?_⟩; refine sgPart_c t2.row ((dv_sm9 (i1.sm hP)).nin (by decide)) (by have := (dv_sm9 (i1.sm hP)).len; omega) (dv_ldd cf'.ldd) fun v3 h3 t3 => ?_
        have s3 := s2.add t3
        have cu3 := t3.row.isRow.cells
        have s3 := s3.toRep.pull 2 rfl
        simp (disch := omega) only [WA, ↓reduceIte, reduceEqDiff, reduceAdd, reduceMul, reduceSub, reduceLeDiff, reduceLT, reduceLE, reduceNeg, reduceEq, cu3]
        refine sep_append (y := partL (dvL f)) s3 rfl rfl te23 tk22 rfl (by decide) (by simp only [List.length_singleton]; decide) fun v4 h4 s4 => ?_
        simp (disch := omega) only [WA, ↓reduceIte, reduceEqDiff, reduceAdd, reduceMul, reduceSub, reduceLeDiff, reduceLT, reduceLE, reduceNeg, reduceEq]
        exact hK' _ _ ⟨[f, partL (dvL f)], _, v4, rfl, stc_two hP hp hf k, s4.head⟩
      · have k1 : ¬ (1 : Int) < (f.length : Int) := by omega
        simp (disch := omega) only [WA, ↓reduceIte, reduceEqDiff, reduceAdd, reduceMul, reduceSub, reduceLeDiff, reduceLT, reduceLE, reduceNeg, reduceEq, k1]
        exact hK' _ _ ⟨[f], f, _, rfl, stc_one hP hp hf k, s1⟩
    clear s1 rf1 s rf cu
    rintro e h2 ⟨out, b, vo, e6, hst, s⟩
    simp (disch := omega) only [WA, ↓reduceIte, reduceEqDiff, reduceAdd, reduceMul, reduceSub, reduceLeDiff, reduceLT, reduceLE, reduceNeg, reduceEq]
    refine loop_rule (fun m e h' => ∃ (out : List (List Int)) (b : List Int) (vo : Value), e 6 = vo ∧ m = b.length ∧ StC p out b ∧ Sep h h' [ownA 22 out vo]) ?_ b.length _ _ ⟨out, b, vo, e6, rfl, hst, s⟩
    clear s hst e6
    rintro m e h3 ⟨out, b, vo, e6, rfl, hst, s⟩
    have ro := s.row
    have ho1 := hst.one
    have ho2 := hst.le
    obtain ⟨wb, Xb, rb⟩ := row_list ro hst.lb
    have k1 : (out.length : Int) - 1 = ((out.length - 1 : Nat) : Int) := by omega
    have q1 : ((out.length - 1 : Nat) : Int) < (out.length : Int) := by omega
    by_cases k : 1 < b.length
    · have kb : (1 : Int) < (b.length : Int) := by omega
      obtain ⟨a, n, h1', h2', h3', h4'⟩ := hst.two k
      have ho3 := h1'.two
      obtain ⟨wa, Xa, ra⟩ := row_list ro h1'.la
      have k2 : (out.length : Int) - 2 = ((out.length - 2 : Nat) : Int) := by omega
      have q2 : ((out.length - 2 : Nat) : Int) < (out.length : Int) := by omega
      have ca := h1'.all a (List.mem_of_getElem? h1'.la)
      have cb := h1'.all b (List.mem_of_getElem? h1'.lb)
      simp (disch := omega) only [WA, ↓reduceIte, reduceEqDiff, reduceAdd, reduceMul, reduceSub, reduceLeDiff, reduceLT, reduceLE, reduceNeg, reduceEq, e6, ro.isRow.len, k1, wrap_in, ro.isRow.ix, q1, Xb, rb.isRow.len, kb]
      refine draw_ord [0, 1, 2, 3, 4, 5, 6, 7, 8, 9, 10, 11, 12, 13, 14, 15, 16, 17] (by kernel_rfl) (by simp only [List.filterMap_cons, List.filterMap_nil, List.getElem?_cons_zero, List.getElem?_cons_succ]; rfl) ?_
      simp (disch := omega) only [WA, ↓reduceIte, reduceEqDiff, reduceAdd, reduceMul, reduceSub, reduceLeDiff, reduceLT, reduceLE, reduceNeg, reduceEq, e6, ro.isRow.len, k1, k2, wrap_in, ro.isRow.ix, q1, q2, Xa, Xb]
      refine .inl ⟨by kernel_rfl, ?_⟩; refine sgRemainder_c ra rb ca.sm cb.sm ca.ldd cb.ldd cb.ne fun v4 h4 t4 => ?_
      have ro4 := ro.mono t4.ext
      have Xa4 := t4.ext.keepC Xa
      have Xb4 := t4.ext.keepC Xb
      have s := s.add t4
      cases hr : remL a b with
      | none =>
        simp (disch := omega) only [WA, ↓reduceIte, reduceEqDiff, reduceAdd, reduceMul, reduceSub, reduceLeDiff, reduceLT, reduceLE, reduceNeg, reduceEq, Option.isSome_none, Xa4, Xb4]
        exact hQ0 (h2'.none k hr) _ s.ext
      | some r =>
        obtain ⟨n1, n2⟩ := StC.next h1' h2' h3' h4' k hr
        rw [hr] at s
        rw [Option.getD_some] at s
        have sr := rem_sm ca.sm cb.sm ca.ldd cb.ldd cb.ne hr
        simp (disch := omega) only [WA, ↓reduceIte, reduceEqDiff, reduceAdd, reduceMul, reduceSub, reduceLeDiff, reduceLT, reduceLE, reduceNeg, reduceEq, Option.isSome_some, Xa4, Xb4, e6]
        refine .inl ⟨by kernel_rfl, ?_⟩; refine stMinus_c (s.pull 0 rfl).row (sr.nin (by decide)) (by have := sr.len; omega) fun v5 h5 t5 => ?_
        have s := s.add t5
        have cu := t5.row.isRow.cells
        have s := s.toRep.pull 2 rfl
        simp (disch := omega) only [WA, ↓reduceIte, reduceEqDiff, reduceAdd, reduceMul, reduceSub, reduceLeDiff, reduceLT, reduceLE, reduceNeg, reduceEq, cu]
        refine sep_append (y := negL r) s rfl rfl te23 tk22 rfl (by decide) (by simp only []; omega) fun v6 h6 s => ?_
        simp (disch := omega) only [WA, ↓reduceIte, reduceEqDiff, reduceAdd, reduceMul, reduceSub, reduceLeDiff, reduceLT, reduceLE, reduceNeg, reduceEq]
        exact ⟨_, n2, out ++ [negL r], negL r, v6, rfl, rfl, n1, s.head⟩
    · have kb : ¬ (1 : Int) < (b.length : Int) := by omega
      have pl := ro.isRow.plain
      simp (disch := omega) only [WA, ↓reduceIte, reduceEqDiff, reduceAdd, reduceMul, reduceSub, reduceLeDiff, reduceLT, reduceLE, reduceNeg, reduceEq, e6, ro.isRow.len, k1, wrap_in, ro.isRow.ix, q1, Xb, rb.isRow.len, kb, pl]
      exact hQ out vo _ (hst.stop (by omega)) hst.all ho2 ro s.ext
/-! ### variations -/
def sgnI (n : Int) : Int := if 0 < n then 1 else if n < 0 then -1 else 0
theorem sgnI_in (n : Int) : -1 ≤ sgnI n ∧ sgnI n ≤ 1 := by unfold sgnI; split; decide; split <;> decide
def farS (up : Bool) (l : List Int) : Int := if up = false ∧ l.length % 2 = 0 then -sgnI (cf l (l.length - 1)) else sgnI (cf l (l.length - 1))
theorem farS_in (up : Bool) (l : List Int) : -1 ≤ farS up l ∧ farS up l ≤ 1 := by have := sgnI_in (cf l (l.length - 1)); unfold farS; split <;> omega
/-- The last sign so far, and how often it has changed. -/
def chgF (st : Int × Nat) (s : Int) : Int × Nat := if s = 0 then st else (s, if st.1 ≠ 0 ∧ s ≠ st.1 then st.2 + 1 else st.2)
def chgM (l : List Int) : Int × Nat := l.foldl chgF (0, 0)
theorem chg_take {l : List Int} {i : Nat} {x : Int} (h : l[i]? = some x) : chgM (l.take (i + 1)) = chgF (chgM (l.take i)) x := by
  unfold chgM; rw [List.take_add_one, h, List.foldl_append]; rfl
theorem chg_bd {l : List Int} (h : ∀ x ∈ l, -1 ≤ x ∧ x ≤ 1) : ∀ i, i ≤ l.length → (-1 ≤ (chgM (l.take i)).1 ∧ (chgM (l.take i)).1 ≤ 1) ∧ (chgM (l.take i)).2 ≤ i := by
  intro i
  induction i with
  | zero => intro _; exact ⟨⟨by simp [chgM], by simp [chgM]⟩, by simp [chgM]⟩
  | succ i ih =>
    intro hi
    obtain ⟨h1, h2⟩ := ih (by omega)
    obtain ⟨x, hx⟩ := get_some (show i < l.length by omega)
    have hb := h x (List.mem_of_getElem? hx)
    rw [chg_take hx]
    generalize chgM (l.take i) = st at *
    unfold chgF
    split
    · exact ⟨h1, by omega⟩
    · refine ⟨hb, ?_⟩
      show (if st.1 ≠ 0 ∧ x ≠ st.1 then st.2 + 1 else st.2) ≤ i + 1
      split <;> omega
def farM (C : List (List Int)) (up : Bool) : Nat := (chgM (C.map (farS up))).2
theorem farM_le (C : List (List Int)) (up : Bool) : farM C up ≤ C.length := by
  have := (chg_bd (l := C.map (farS up)) (fun x hx => by obtain ⟨l, _, rfl⟩ := List.mem_map.1 hx; exact farS_in up l) (C.map (farS up)).length (Nat.le_refl _)).2
  rw [List.take_length, List.length_map] at this
  exact this
theorem isNaNi_c {n : Int} {h : Heap} {Q : Value → Heap → Prop} (hQ : Q (.bool false) h) : CallsV Try.prog 61 [.int .i64 n] h Q := by
  refine CallsV.start Try.func61 rfl (by rw [Try.results61]) (by kernel_rfl) (by rw [Try.ntmps61]; simp) ?_
  simp (disch := omega) only [WA, ↓reduceIte, reduceEqDiff, reduceAdd, reduceMul, reduceSub, reduceLeDiff, reduceLT, reduceLE, reduceNeg, reduceEq]
  exact hQ
theorem compareI_c {n : Int} {h : Heap} {Q : Value → Heap → Prop} (hQ : Q (.int .i64 (sgnI n)) h) : CallsV Try.prog 45 [.int .i64 n, .int .i64 0] h Q := by
  refine CallsV.start Try.func45 rfl (by rw [Try.results45]) (by kernel_rfl) (by rw [Try.ntmps45]; simp) ?_
  simp (disch := omega) only [WA, ↓reduceIte, reduceEqDiff, reduceAdd, reduceMul, reduceSub, reduceLeDiff, reduceLT, reduceLE, reduceNeg, reduceEq]
  refine .inl ⟨by kernel_rfl, ?_⟩; refine isNaNi_c ?_
  simp (disch := omega) only [WA, ↓reduceIte, reduceEqDiff, reduceAdd, reduceMul, reduceSub, reduceLeDiff, reduceLT, reduceLE, reduceNeg, reduceEq]
  refine .inl ⟨by kernel_rfl, ?_⟩; refine isNaNi_c ?_
  unfold sgnI at hQ
  by_cases c : n < 0
  · rw [if_neg (by omega), if_pos c] at hQ
    simp (disch := omega) only [WA, ↓reduceIte, reduceEqDiff, reduceAdd, reduceMul, reduceSub, reduceLeDiff, reduceLT, reduceLE, reduceNeg, reduceEq, c]
    exact hQ
  · by_cases d : 0 < n
    · rw [if_pos d] at hQ
      simp (disch := omega) only [WA, ↓reduceIte, reduceEqDiff, reduceAdd, reduceMul, reduceSub, reduceLeDiff, reduceLT, reduceLE, reduceNeg, reduceEq, c, d]
      exact hQ
    · rw [if_neg d, if_neg c] at hQ
      simp (disch := omega) only [WA, ↓reduceIte, reduceEqDiff, reduceAdd, reduceMul, reduceSub, reduceLeDiff, reduceLT, reduceLE, reduceNeg, reduceEq, c, d]
      exact hQ
theorem l1Sign_c {n : Int} {h : Heap} {Q : Value → Heap → Prop} (hQ : Q (.int .i64 (sgnI n)) h) : CallsV Try.prog 56 [.int .i64 n] h Q := by
  refine CallsV.start Try.func56 rfl (by rw [Try.results56]) (by kernel_rfl) (by rw [Try.ntmps56]; simp) ?_
  unfold sgnI at hQ
  by_cases d : 0 < n
  · rw [if_pos d] at hQ
    simp (disch := omega) only [WA, ↓reduceIte, reduceEqDiff, reduceAdd, reduceMul, reduceSub, reduceLeDiff, reduceLT, reduceLE, reduceNeg, reduceEq, d]
    exact hQ
  · by_cases c : n < 0
    · rw [if_neg d, if_pos c] at hQ
      simp (disch := omega) only [WA, ↓reduceIte, reduceEqDiff, reduceAdd, reduceMul, reduceSub, reduceLeDiff, reduceLT, reduceLE, reduceNeg, reduceEq, c, d]
      exact hQ
    · rw [if_neg d, if_neg c] at hQ
      simp (disch := omega) only [WA, ↓reduceIte, reduceEqDiff, reduceAdd, reduceMul, reduceSub, reduceLeDiff, reduceLT, reduceLE, reduceNeg, reduceEq, c, d]
      exact hQ
theorem stChanges_c {l : List Int} {v : Value} {h : Heap} {Q : Value → Heap → Prop} (r : Row h l v) (hl : ∀ x ∈ l, -1 ≤ x ∧ x ≤ 1) (h20 : l.length ≤ 100) (hQ : Q (.int .i64 ((chgM l).2 : Nat)) h) : CallsV Try.prog 57 [v] h Q := by
  refine CallsV.start Try.func57 rfl (by rw [Try.results57]) (by kernel_rfl) (by rw [Try.ntmps57]; simp) ?_
  simp (disch := omega) only [WA, ↓reduceIte, reduceEqDiff, reduceAdd, reduceMul, reduceSub, reduceLeDiff, reduceLT, reduceLE, reduceNeg, reduceEq, r.isRow.len]
  refine loop_rule (fun m e h' => ∃ (i : Nat), e 3 = .int .i64 (chgM (l.take i)).1 ∧ e 4 = .int .i64 ((chgM (l.take i)).2 : Nat) ∧ e 7 = v ∧ e 8 = .int .i64 l.length ∧ e 9 = .int .i64 i ∧ i ≤ l.length ∧ m = l.length - i ∧ h' = h) ?_ l.length _ _ ⟨0, rfl, rfl, rfl, rfl, rfl, by omega, rfl, rfl⟩
  rintro m e h2 ⟨i, e3, e4, e7, e8, e9, hi, rfl, rfl⟩
  simp (disch := omega) only [WA, ↓reduceIte, reduceEqDiff, reduceAdd, reduceMul, reduceSub, reduceLeDiff, reduceLT, reduceLE, reduceNeg, reduceEq, e8, e9]
  by_cases c : i < l.length
  · have c1 : (i : Int) < (l.length : Int) := by omega
    obtain ⟨x, hx⟩ := get_some c
    have X := (row_int r hx).1
    have hb := hl x (List.mem_of_getElem? hx)
    obtain ⟨b1, b2⟩ := chg_bd hl i hi
    have w1 := wrap9 (x := (i : Int) + 1) (by omega)
    have ht := chg_take hx
    generalize chgM (l.take i) = st at *
    obtain ⟨s1, s2⟩ := st
    simp only at *
    have w2 := wrap9 (x := (s2 : Int) + 1) (by omega)
    by_cases z : x = 0
    · have hc : chgF (s1, s2) x = (s1, s2) := by unfold chgF; rw [if_pos z]
      rw [hc] at ht
      simp (disch := omega) only [WA, ↓reduceIte, reduceEqDiff, reduceAdd, reduceMul, reduceSub, reduceLeDiff, reduceLT, reduceLE, reduceNeg, reduceEq, c1, e7, e9, r.isRow.ix, X, z, w1]
      exact ⟨_, by omega, i + 1, by rw [ht]; exact e3, by rw [ht]; exact e4, e8, by simp, by omega, rfl⟩
    · by_cases z2 : s1 = 0
      · have hc : chgF (s1, s2) x = (x, s2) := by unfold chgF; rw [if_neg z, if_neg (by simp [z2])]
        rw [hc] at ht
        have d2 : decide (s1 = 0) = true := decide_eq_true z2
        simp (disch := omega) only [WA, ↓reduceIte, reduceEqDiff, reduceAdd, reduceMul, reduceSub, reduceLeDiff, reduceLT, reduceLE, reduceNeg, reduceEq, c1, e3, e7, e9, r.isRow.ix, X, z, z2, d2, w1]
        exact ⟨_, by omega, i + 1, by rw [ht], by rw [ht]; exact e4, e8, by simp, by omega, rfl⟩
      · have d2 : decide (s1 = 0) = false := decide_eq_false z2
        by_cases z3 : x = s1
        · have hc : chgF (s1, s2) x = (x, s2) := by unfold chgF; rw [if_neg z, if_neg (by simp [z3])]
          rw [hc] at ht
          have d3 : decide (x = s1) = true := decide_eq_true z3
          simp (disch := omega) only [WA, ↓reduceIte, reduceEqDiff, reduceAdd, reduceMul, reduceSub, reduceLeDiff, reduceLT, reduceLE, reduceNeg, reduceEq, c1, e3, e7, e9, r.isRow.ix, X, z, d2, d3, w1]
          exact ⟨_, by omega, i + 1, by rw [ht], by rw [ht]; exact e4, e8, by simp, by omega, rfl⟩
        · have hc : chgF (s1, s2) x = (x, s2 + 1) := by unfold chgF; rw [if_neg z, if_pos ⟨z2, z3⟩]
          rw [hc] at ht
          have d3 : decide (x = s1) = false := decide_eq_false z3
          simp (disch := omega) only [WA, ↓reduceIte, reduceEqDiff, reduceAdd, reduceMul, reduceSub, reduceLeDiff, reduceLT, reduceLE, reduceNeg, reduceEq, c1, e3, e4, e7, e9, r.isRow.ix, X, z, d2, d3, w1, w2]
          exact ⟨_, by omega, i + 1, by rw [ht], by rw [ht]; rfl, e8, by simp, by omega, rfl⟩
  · obtain rfl : i = l.length := by omega
    have c1 : ¬ (l.length : Int) < (l.length : Int) := by omega
    rw [List.take_length] at e4
    simp (disch := omega) only [WA, ↓reduceIte, reduceEqDiff, reduceAdd, reduceMul, reduceSub, reduceLeDiff, reduceLT, reduceLE, reduceNeg, reduceEq, c1, e4]
    exact hQ
end Go.Proofs

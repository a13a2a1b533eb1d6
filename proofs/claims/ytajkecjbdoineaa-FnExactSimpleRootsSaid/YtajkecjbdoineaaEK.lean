/- Contracts of functions, facts of types, or the plain law behind one statement (own work): EK. Conditions: those told in each theorem. -/
import Derived.Test.YtajkecjbdoineaaEJ
import Derived.Test.YtajkecjbdoineaaH1
set_option linter.all false
set_option linter.unusedSimpArgs false
set_option linter.unusedVariables false
set_option maxRecDepth 4000
namespace Go.Proofs
open Go Go.V
open Nat (reduceEqDiff reduceAdd reduceMul reduceSub reduceLeDiff)
open Int (reduceLT reduceLE reduceNeg reduceEq)
noncomputable def mpM (p : List Int) : Option (List (List Int)) := if singM p && decide (0 < p.length) then partsM p else none
theorem MultiplicityParts_i {p : List Int} {v : Value} {h : Heap} {Q : Value → Heap → Prop} (r : Row h p v)
    (hQ : ∀ v h', Sep h h' [repA ((mpM p).getD []) [v]] → Q (.tuple #[v, .bool (mpM p).isSome]) h') : CallsV Try.prog 8 [v] h Q := by
  refine CallsV.start Try.func8 rfl (by rw [Try.results8]) (by kernel_rfl) (by rw [Try.ntmps8]; simp) ?_
  unfold mpM at hQ
  simp (disch := omega) only [WA, ↓reduceIte, reduceEqDiff, reduceAdd, reduceMul, reduceSub, reduceLeDiff, reduceLT, reduceLE, reduceNeg, reduceEq]
  refine .inl ⟨by kernel_rfl, ?_⟩; refine isSingle_c r ?_
  cases hs : singM p with
  | false =>
    rw [hs] at hQ
    simp (disch := omega) only [WA, ↓reduceIte, reduceEqDiff, reduceAdd, reduceMul, reduceSub, reduceLeDiff, reduceLT, reduceLE, reduceNeg, reduceEq]
    exact hQ _ _ ((Sep.nil (.refl h)).nilA 22).toRep
  | true =>
    by_cases c : p.length = 0
    · have c1 : (p.length : Int) = 0 := by omega
      have d : decide (0 < p.length) = false := decide_eq_false (by omega)
      rw [hs, d] at hQ
      simp (disch := omega) only [WA, ↓reduceIte, reduceEqDiff, reduceAdd, reduceMul, reduceSub, reduceLeDiff, reduceLT, reduceLE, reduceNeg, reduceEq, r.isRow.len, c1]
      exact hQ _ _ ((Sep.nil (.refl h)).nilA 22).toRep
    · have c1 : ¬ (p.length : Int) = 0 := by omega
      have d : decide (0 < p.length) = true := decide_eq_true (by omega)
      have d2 : decide ((p.length : Int) = 0) = false := decide_eq_false c1
      rw [hs, d] at hQ
      simp (disch := omega) only [WA, ↓reduceIte, reduceEqDiff, reduceAdd, reduceMul, reduceSub, reduceLeDiff, reduceLT, reduceLE, reduceNeg, reduceEq, r.isRow.len, c1, d2]
      refine .inl ⟨by kernel_rfl, ?_⟩; refine multiplicityParts_c r (sing_top hs (by omega)) fun v1 h1 s => ?_
      have pl := s.row.isRow.plain
      simp (disch := omega) only [WA, ↓reduceIte, reduceEqDiff, reduceAdd, reduceMul, reduceSub, reduceLeDiff, reduceLT, reduceLE, reduceNeg, reduceEq, pl]
      exact hQ _ _ s.toRep
theorem MultiplicityParts_s {p : List Int} {v : Value} {h : Heap} {Q : Value → Heap → Prop} (r : Row h p v)
    (hQ : ∀ v h', Sep h h' [repA ((mpM p).getD []) [v]] → Q (.tuple #[v, .bool (mpM p).isSome]) h') : CallsV Try.prog 6 [v] h Q := by
  refine CallsV.start Try.func6 rfl (by rw [Try.results6]) (by kernel_rfl) (by rw [Try.ntmps6]; simp) ?_
  unfold mpM at hQ
  simp (disch := omega) only [WA, ↓reduceIte, reduceEqDiff, reduceAdd, reduceMul, reduceSub, reduceLeDiff, reduceLT, reduceLE, reduceNeg, reduceEq]
  refine .inl ⟨by kernel_rfl, ?_⟩; refine stAsked_c r ?_
  cases hs : singM p && decide (0 < p.length) with
  | false =>
    rw [hs] at hQ
    simp (disch := omega) only [WA, ↓reduceIte, reduceEqDiff, reduceAdd, reduceMul, reduceSub, reduceLeDiff, reduceLT, reduceLE, reduceNeg, reduceEq]
    exact hQ _ _ ((Sep.nil (.refl h)).nilA 22).toRep
  | true =>
    rw [hs] at hQ
    obtain ⟨h1, h2⟩ := Bool.and_eq_true_iff.1 hs
    simp (disch := omega) only [WA, ↓reduceIte, reduceEqDiff, reduceAdd, reduceMul, reduceSub, reduceLeDiff, reduceLT, reduceLE, reduceNeg, reduceEq]
    refine .inl ⟨by kernel_rfl, ?_⟩; refine muParts_c r (sing_top h1 (of_decide_eq_true h2)) fun v1 h1 s => ?_
    have pl := s.row.isRow.plain
    simp (disch := omega) only [WA, ↓reduceIte, reduceEqDiff, reduceAdd, reduceMul, reduceSub, reduceLeDiff, reduceLT, reduceLE, reduceNeg, reduceEq, pl]
    exact hQ _ _ s.toRep
theorem inF_cnt {P : List Int} {l : List Int} (h : l.length ≤ 9) : cntL l ≤ 72 := by
  have h1 := cntL_le l
  rw [siz_zero (fun _ => rfl)] at h1
  omega
theorem cnt_le {L : List (List Int)} (h : ∀ l ∈ L, l.length ≤ 9) : cntL L ≤ 72 * L.length := by
  induction L with
  | nil => exact Nat.le_refl _
  | cons a L ih =>
    have e : cntL (a :: L) = cntL a + cntL L := by unfold cntL; rw [List.map_cons, List.sum_cons]; rfl
    have h1 := inF_cnt (P := a) (h a (by simp))
    have h2 := ih fun l hl => h l (by simp [hl])
    rw [e, List.length_cons]
    omega
theorem partsA_len {P : List Int} (hP : Top P) : ∀ (n : Nat) (w c : List Int) (L : List (List Int)), InF P w → InF P c → partsA n w c = some L → L.length ≤ n ∧ ∀ l ∈ L, InF P l := by
  intro n
  induction n with
  | zero => intro w c L _ _ h; simp only [partsA, Option.some.injEq] at h; subst h; simp
  | succ n ih =>
    intro w c L hw hc h
    simp only [partsA] at h
    split at h
    · cases h; simp
    · rename_i k
      cases hy : comL w c with
      | none => rw [hy] at h; cases h
      | some y =>
        rw [hy] at h
        obtain ⟨b1, b2, b3, b4, _⟩ := msr_next hP hw hc (by omega) hy
        have h : (partsA n y (upS (quoL c y))).map (upS (quoL w y) :: ·) = some L := h
        obtain ⟨M, hM, rfl⟩ := Option.map_eq_some_iff.1 h
        obtain ⟨i1, i2⟩ := ih y _ M b1 b4.up hM
        refine ⟨by rw [List.length_cons]; omega, fun l hl => ?_⟩
        rcases List.mem_cons.1 hl with rfl | hl
        · exact b3.up
        · exact i2 l hl
theorem partsM_fact {p : List Int} (hP : Top p) {L : List (List Int)} (h : partsM p = some L) : L.length ≤ 40 ∧ ∀ l ∈ L, InF p l := by
  have hp : InF p p := ⟨hP.ldd, Fac.refl p⟩
  cases hd : comL p (dvL p) with
  | none => rw [(parts_none1 hd).1] at h; cases h
  | some d =>
    obtain ⟨hf, hm⟩ := parts_some hd
    obtain ⟨a1, a2, a3, _⟩ := free_fact hP hp hd
    rw [hm] at h
    exact partsA_len hP 40 _ _ L a3.up a1 h
theorem mpM_cnt (p : List Int) : cntL ((mpM p).getD []) ≤ 2880 := by
  unfold mpM
  split
  · rename_i hs
    obtain ⟨h1, h2⟩ := Bool.and_eq_true_iff.1 hs
    have hP := sing_top h1 (of_decide_eq_true h2)
    cases hm : partsM p with
    | none => simp [cntL]
    | some L =>
      obtain ⟨l1, l2⟩ := partsM_fact hP hm
      have := cnt_le (L := L) fun l hl => (l2 l hl).len hP
      rw [Option.getD_some]
      omega
  · simp [cntL]
end Go.Proofs

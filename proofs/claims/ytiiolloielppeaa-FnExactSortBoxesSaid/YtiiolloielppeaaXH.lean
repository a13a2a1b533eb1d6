/- Contracts of functions, facts of types, or the plain law behind one statement (own work): XH. Conditions: those told in each theorem. -/
import Derived.Test.YtiiolloielppeaaXG
set_option linter.all false
set_option linter.unusedSimpArgs false
set_option linter.unusedVariables false
set_option maxRecDepth 4000
namespace Go.Proofs
open Go Go.V
def hfL (l : List Int) : List Int := l.map (Int.tdiv · 2)
theorem hfL_len (l : List Int) : (hfL l).length = l.length := by unfold hfL; simp
def InB (b : Int) (l : List Int) : Prop := ∀ n ∈ l, -b ≤ n ∧ n ≤ b
theorem zip_odd {l m : List Int} (hm : m.length = l.length) (h : (l ++ m).any oddI = false) : (l.zip m).any pairOdd = false ∧ (∀ n ∈ l, oddI n = false) ∧ ∀ n ∈ m, oddI n = false := by
  refine ⟨by rw [← any_pair l m hm]; exact h, fun n hn => ?_, fun n hn => ?_⟩
  · have := List.any_eq_false.1 h n (List.mem_append_left _ hn); simpa using this
  · have := List.any_eq_false.1 h n (List.mem_append_right _ hn); simpa using this
theorem tdiv_small {x : Int} (h : -1000000000 ≤ x ∧ x ≤ 1000000000) : -1000000000 ≤ Int.tdiv x 2 ∧ Int.tdiv x 2 ≤ 1000000000 := by
  have := Int.mul_tdiv_add_tmod x 2
  have h1 := Int.emod_nonneg x (show (2 : Int) ≠ 0 by decide)
  have h2 : -2 < Int.tmod x 2 ∧ Int.tmod x 2 < 2 := by
    rw [Int.tmod_eq_emod]
    split <;> constructor <;> omega
  omega
theorem boxOf_c {k : Nat} {lo hi : List Int} {vl vh : Value} {h : Heap} {Q : Value → Heap → Prop} (rl : Row h lo vl) (rh : Row h hi vh) (hk : k ≤ 8) (h1 : 1 ≤ lo.length) (h3 : lo.length ≤ 3) (hm : hi.length = lo.length)
    (b1 : InB (mostM (k : Int)) lo) (b2 : InB (mostM (k : Int)) hi)
    (hQ : ∀ (cs : List Value) h', cs.length = 3 → Ext h h' → Q (.tuple #[.agg cs.toArray, .bool ((lo.zip hi).all ltP)]) h') :
    CallsV Try.prog 87 [.int .i64 (k : Int), vl, vh] h Q := by
  refine CallsV.start Try.func87 rfl (by rw [Try.results87]) (by kernel_rfl) (by rw [Try.ntmps87]; simp) ?_
  have u := Sep.blk1 h [.int .i64 0, .slice none 0 0, .slice none 0 0] 42 true
  simp (disch := omega) only [VW, VY, VZ, VA, VB, VC, VE, TY, ↓reduceIte, Nat.reduceEqDiff, Nat.reduceAdd, Nat.reduceMul, Nat.reduceSub, Nat.reduceLeDiff, List.length_cons, List.length_nil, List.length_append, List.append_assoc, List.take_succ_cons, List.take_zero, List.drop_succ_cons, List.drop_zero, List.set_cons_zero, List.set_cons_succ, true_or, or_true, and_self, Bool.false_eq_true, Nat.le_refl, Option.bind_some, Option.map_some, Option.getD_some, Option.isSome_some, List.map_cons, List.map_nil, List.cons_append, List.nil_append, List.append_nil, List.getElem?_cons_zero, List.getElem?_cons_succ, eq_self, Int.reduceLT, Int.reduceLE, Int.reduceNeg, Int.reduceEq]
  refine .inl ⟨by kernel_rfl, ?_⟩; refine cloneInt_c (rl.mono u.ext) (by omega) fun ul hA sA => ?_
  have u := u.add sA
  simp (disch := omega) only [VW, VY, VZ, VA, VB, VC, VE, TY, ↓reduceIte, Nat.reduceEqDiff, Nat.reduceAdd, Nat.reduceMul, Nat.reduceSub, Nat.reduceLeDiff, List.length_cons, List.length_nil, List.length_append, List.append_assoc, List.take_succ_cons, List.take_zero, List.drop_succ_cons, List.drop_zero, List.set_cons_zero, List.set_cons_succ, true_or, or_true, and_self, Bool.false_eq_true, Nat.le_refl, Option.bind_some, Option.map_some, Option.getD_some, Option.isSome_some, List.map_cons, List.map_nil, List.cons_append, List.nil_append, List.append_nil, List.getElem?_cons_zero, List.getElem?_cons_succ, eq_self, Int.reduceLT, Int.reduceLE, Int.reduceNeg, Int.reduceEq]
  refine .inl ⟨by kernel_rfl, ?_⟩; refine cloneInt_c (rh.mono u.ext) (by omega) fun uh hB sB => ?_
  have u := u.add sB
  have cu1 := sA.row.isRow.cells
  have cu2 := sB.row.isRow.cells
  have u : Sep h hB [ownA 3 hi uh, ownA 3 lo ul, blkA h.length [.int .i64 0, .slice none 0 0, .slice none 0 0] 42] := u
  have u := u.newBlk [.int .i64 (k : Int), ul, uh] 42 true
  simp (disch := omega) only [VW, VY, VZ, VA, VB, VC, VE, TY, ↓reduceIte, Nat.reduceEqDiff, Nat.reduceAdd, Nat.reduceMul, Nat.reduceSub, Nat.reduceLeDiff, List.length_cons, List.length_nil, List.length_append, List.append_assoc, List.take_succ_cons, List.take_zero, List.drop_succ_cons, List.drop_zero, List.set_cons_zero, List.set_cons_succ, true_or, or_true, and_self, Bool.false_eq_true, Nat.le_refl, Option.bind_some, Option.map_some, Option.getD_some, Option.isSome_some, List.map_cons, List.map_nil, List.cons_append, List.nil_append, List.append_nil, List.getElem?_cons_zero, List.getElem?_cons_succ, eq_self, Int.reduceLT, Int.reduceLE, Int.reduceNeg, Int.reduceEq, cu1, cu2]
  refine loop_rule (fun n e h' => ∃ (m : Nat) (cl ch : List Int), e 6 = .pointer (some ⟨h.length, 0, none⟩) ∧ e 8 = .pointer (some ⟨hB.length, 0, none⟩) ∧ m ≤ 8 ∧ m = n ∧ cl.length = lo.length ∧ ch.length = lo.length ∧ InB (mostM (m : Int)) cl ∧ InB (mostM (m : Int)) ch ∧ (cl.zip ch).all ltP = (lo.zip hi).all ltP ∧
    Sep h h' [blkA hB.length [.int .i64 (m : Int), ul, uh] 42, ownA 3 cl ul, ownA 3 ch uh, blkA h.length [.int .i64 0, .slice none 0 0, .slice none 0 0] 42]) ?_ k _ _
    ⟨k, lo, hi, rfl, rfl, hk, rfl, rfl, hm, b1, b2, rfl, (u.pull 2 rfl).pull 1 rfl⟩
  rintro n e h' ⟨m, cl, ch, e6, e8, hm8, rfl, hcl, hch, ib1, ib2, hT, u⟩
  have gb := u.rd
  have c1 := (u.pull 1 rfl).row.isRow.cells
  have c2 := (u.pull 2 rfl).row.isRow.cells
  have p1 := (u.pull 1 rfl).row.isRow.plain
  have p2 := (u.pull 2 rfl).row.isRow.plain
  rcases Nat.eq_zero_or_pos m with hm0 | hm0
  · have z0 : ¬ (0 : Int) < (m : Int) := by omega
    simp (disch := omega) only [VW, VY, VZ, VA, VB, VC, VE, TY, ↓reduceIte, Nat.reduceEqDiff, Nat.reduceAdd, Nat.reduceMul, Nat.reduceSub, Nat.reduceLeDiff, List.length_cons, List.length_nil, List.length_append, List.append_assoc, List.take_succ_cons, List.take_zero, List.drop_succ_cons, List.drop_zero, List.set_cons_zero, List.set_cons_succ, true_or, or_true, and_self, Bool.false_eq_true, Nat.le_refl, Option.bind_some, Option.map_some, Option.getD_some, Option.isSome_some, List.map_cons, List.map_nil, List.cons_append, List.nil_append, List.append_nil, List.getElem?_cons_zero, List.getElem?_cons_succ, eq_self, Int.reduceLT, Int.reduceLE, Int.reduceNeg, Int.reduceEq, e8, gb, z0]
    have pb : At _ hB.length 0 (⟨(m : Int), cl, ch⟩ : Bx) := ⟨_, u.rdAll (n := 3) rfl, mk_Bx (x := ⟨(m : Int), cl, ch⟩) (show inI64 (m : Int) from ⟨by omega, by omega⟩) (u.pull 1 rfl).row (u.pull 2 rfl).row⟩
    have hbox : boxM (⟨(m : Int), cl, ch⟩ : Bx) = (lo.zip hi).all ltP := by rw [← hT]; exact box_of ⟨by omega, by omega⟩ (by omega) (by omega) (by omega) ib1 ib2 (.inl (by omega))
    try simp (disch := omega) only [VW, VY, VZ, VA, VB, VC, VE, TY, ↓reduceIte, Nat.reduceEqDiff, Nat.reduceAdd, Nat.reduceMul, Nat.reduceSub, Nat.reduceLeDiff, List.length_cons, List.length_nil, List.length_append, List.append_assoc, List.take_succ_cons, List.take_zero, List.drop_succ_cons, List.drop_zero, List.set_cons_zero, List.set_cons_succ, true_or, or_true, and_self, Bool.false_eq_true, Nat.le_refl, Option.bind_some, Option.map_some, Option.getD_some, Option.isSome_some, List.map_cons, List.map_nil, List.cons_append, List.nil_append, List.append_nil, List.getElem?_cons_zero, List.getElem?_cons_succ, eq_self, Int.reduceLT, Int.reduceLE, Int.reduceNeg, Int.reduceEq, e8]
    refine .inl ⟨by kernel_rfl, ?_⟩; refine isBox_c pb ?_
    rw [hbox]
    cases hres : (lo.zip hi).all ltP with
    | false =>
      rw [hres] at hQ
      simp (disch := omega) only [VW, VY, VZ, VA, VB, VC, VE, TY, ↓reduceIte, Nat.reduceEqDiff, Nat.reduceAdd, Nat.reduceMul, Nat.reduceSub, Nat.reduceLeDiff, List.length_cons, List.length_nil, List.length_append, List.append_assoc, List.take_succ_cons, List.take_zero, List.drop_succ_cons, List.drop_zero, List.set_cons_zero, List.set_cons_succ, true_or, or_true, and_self, Bool.false_eq_true, Nat.le_refl, Option.bind_some, Option.map_some, Option.getD_some, Option.isSome_some, List.map_cons, List.map_nil, List.cons_append, List.nil_append, List.append_nil, List.getElem?_cons_zero, List.getElem?_cons_succ, eq_self, Int.reduceLT, Int.reduceLE, Int.reduceNeg, Int.reduceEq, e6]
      refine sep_store (u.pull 3 rfl) (by simp) fun h9 u => ?_
      have u := u.as (ds := [.int .i64 0, .slice none 0 0, .slice none 0 0]) (by simp [t_put])
      have gz := u.rdAll (n := 3) rfl
      simp (disch := omega) only [VW, VY, VZ, VA, VB, VC, VE, TY, ↓reduceIte, Nat.reduceEqDiff, Nat.reduceAdd, Nat.reduceMul, Nat.reduceSub, Nat.reduceLeDiff, List.length_cons, List.length_nil, List.length_append, List.append_assoc, List.take_succ_cons, List.take_zero, List.drop_succ_cons, List.drop_zero, List.set_cons_zero, List.set_cons_succ, true_or, or_true, and_self, Bool.false_eq_true, Nat.le_refl, Option.bind_some, Option.map_some, Option.getD_some, Option.isSome_some, List.map_cons, List.map_nil, List.cons_append, List.nil_append, List.append_nil, List.getElem?_cons_zero, List.getElem?_cons_succ, eq_self, Int.reduceLT, Int.reduceLE, Int.reduceNeg, Int.reduceEq, gz, e6]
      exact hQ _ _ rfl u.ext
    | true =>
      rw [hres] at hQ
      have ga := u.rdAll (n := 3) rfl
      simp (disch := omega) only [VW, VY, VZ, VA, VB, VC, VE, TY, ↓reduceIte, Nat.reduceEqDiff, Nat.reduceAdd, Nat.reduceMul, Nat.reduceSub, Nat.reduceLeDiff, List.length_cons, List.length_nil, List.length_append, List.append_assoc, List.take_succ_cons, List.take_zero, List.drop_succ_cons, List.drop_zero, List.set_cons_zero, List.set_cons_succ, true_or, or_true, and_self, Bool.false_eq_true, Nat.le_refl, Option.bind_some, Option.map_some, Option.getD_some, Option.isSome_some, List.map_cons, List.map_nil, List.cons_append, List.nil_append, List.append_nil, List.getElem?_cons_zero, List.getElem?_cons_succ, eq_self, Int.reduceLT, Int.reduceLE, Int.reduceNeg, Int.reduceEq, e6, e8, ga]
      refine sep_store (u.pull 3 rfl) (by simp) fun h9 u => ?_
      have u := u.as (ds := [.int .i64 (m : Int), ul, uh]) (by simp [t_put])
      have gz := u.rdAll (n := 3) rfl
      simp (disch := omega) only [VW, VY, VZ, VA, VB, VC, VE, TY, ↓reduceIte, Nat.reduceEqDiff, Nat.reduceAdd, Nat.reduceMul, Nat.reduceSub, Nat.reduceLeDiff, List.length_cons, List.length_nil, List.length_append, List.append_assoc, List.take_succ_cons, List.take_zero, List.drop_succ_cons, List.drop_zero, List.set_cons_zero, List.set_cons_succ, true_or, or_true, and_self, Bool.false_eq_true, Nat.le_refl, Option.bind_some, Option.map_some, Option.getD_some, Option.isSome_some, List.map_cons, List.map_nil, List.cons_append, List.nil_append, List.append_nil, List.getElem?_cons_zero, List.getElem?_cons_succ, eq_self, Int.reduceLT, Int.reduceLE, Int.reduceNeg, Int.reduceEq, gz, e6, p1, p2]
      exact hQ _ _ rfl u.ext
  · have z0 : (0 : Int) < (m : Int) := by omega
    obtain ⟨q, hq⟩ : ∃ q, m = q + 1 := ⟨m - 1, by omega⟩
    have rl2 : ∀ H, Ext h' H → cellsAt H h'.length 0 2 = some [ul, uh] → Row H [cl, ch] (.slice (some ⟨h'.length, 0, none⟩) 2 2) := fun H E hc =>
      Row.ofBlk (cs := [ul, uh]) hc (.cons (mk_list ((u.pull 1 rfl).row.mono E)) (.cons (mk_list ((u.pull 2 rfl).row.mono E)) .nil)) rfl (by decide)
    have u1 := u.newBlk [ul, uh] 34 true
    have rc := rl2 _ (Ext.one h' _) (u1.rdAll (n := 2) rfl)
    simp (disch := omega) only [VW, VY, VZ, VA, VB, VC, VE, TY, ↓reduceIte, Nat.reduceEqDiff, Nat.reduceAdd, Nat.reduceMul, Nat.reduceSub, Nat.reduceLeDiff, List.length_cons, List.length_nil, List.length_append, List.append_assoc, List.take_succ_cons, List.take_zero, List.drop_succ_cons, List.drop_zero, List.set_cons_zero, List.set_cons_succ, true_or, or_true, and_self, Bool.false_eq_true, Nat.le_refl, Option.bind_some, Option.map_some, Option.getD_some, Option.isSome_some, List.map_cons, List.map_nil, List.cons_append, List.nil_append, List.append_nil, List.getElem?_cons_zero, List.getElem?_cons_succ, eq_self, Int.reduceLT, Int.reduceLE, Int.reduceNeg, Int.reduceEq, e8, gb, z0, c1, c2]
    refine .inl ⟨by kernel_rfl, ?_⟩; refine concatI_c rc (by simp) (by simp; omega) fun w h2 s2 => ?_
    have u2 := u1.mono s2.ext
    simp (disch := omega) only [VW, VY, VZ, VA, VB, VC, VE, TY, ↓reduceIte, Nat.reduceEqDiff, Nat.reduceAdd, Nat.reduceMul, Nat.reduceSub, Nat.reduceLeDiff, List.length_cons, List.length_nil, List.length_append, List.append_assoc, List.take_succ_cons, List.take_zero, List.drop_succ_cons, List.drop_zero, List.set_cons_zero, List.set_cons_succ, true_or, or_true, and_self, Bool.false_eq_true, Nat.le_refl, Option.bind_some, Option.map_some, Option.getD_some, Option.isSome_some, List.map_cons, List.map_nil, List.cons_append, List.nil_append, List.append_nil, List.getElem?_cons_zero, List.getElem?_cons_succ, eq_self, Int.reduceLT, Int.reduceLE, Int.reduceNeg, Int.reduceEq]
    refine .inl ⟨by kernel_rfl, ?_⟩; refine containsOdd_c s2.row ?_
    have hfl : [cl, ch].flatten = cl ++ ch := by simp
    rw [hfl]
    have u := u2.tail
    have gb := u.rd
    cases hodd : (cl ++ ch).any oddI with
    | true =>
      have hpo : (cl.zip ch).any pairOdd = true := by rw [← any_pair cl ch (by omega)]; exact hodd
      simp (disch := omega) only [VW, VY, VZ, VA, VB, VC, VE, TY, ↓reduceIte, Nat.reduceEqDiff, Nat.reduceAdd, Nat.reduceMul, Nat.reduceSub, Nat.reduceLeDiff, List.length_cons, List.length_nil, List.length_append, List.append_assoc, List.take_succ_cons, List.take_zero, List.drop_succ_cons, List.drop_zero, List.set_cons_zero, List.set_cons_succ, true_or, or_true, and_self, Bool.false_eq_true, Nat.le_refl, Option.bind_some, Option.map_some, Option.getD_some, Option.isSome_some, List.map_cons, List.map_nil, List.cons_append, List.nil_append, List.append_nil, List.getElem?_cons_zero, List.getElem?_cons_succ, eq_self, Int.reduceLT, Int.reduceLE, Int.reduceNeg, Int.reduceEq]
      have pb : At _ hB.length 0 (⟨(m : Int), cl, ch⟩ : Bx) := ⟨_, u.rdAll (n := 3) rfl, mk_Bx (x := ⟨(m : Int), cl, ch⟩) (show inI64 (m : Int) from ⟨by omega, by omega⟩) (u.pull 1 rfl).row (u.pull 2 rfl).row⟩
      have hbox : boxM (⟨(m : Int), cl, ch⟩ : Bx) = (lo.zip hi).all ltP := by rw [← hT]; exact box_of ⟨by omega, by omega⟩ (by omega) (by omega) (by omega) ib1 ib2 (.inr hpo)
      try simp (disch := omega) only [VW, VY, VZ, VA, VB, VC, VE, TY, ↓reduceIte, Nat.reduceEqDiff, Nat.reduceAdd, Nat.reduceMul, Nat.reduceSub, Nat.reduceLeDiff, List.length_cons, List.length_nil, List.length_append, List.append_assoc, List.take_succ_cons, List.take_zero, List.drop_succ_cons, List.drop_zero, List.set_cons_zero, List.set_cons_succ, true_or, or_true, and_self, Bool.false_eq_true, Nat.le_refl, Option.bind_some, Option.map_some, Option.getD_some, Option.isSome_some, List.map_cons, List.map_nil, List.cons_append, List.nil_append, List.append_nil, List.getElem?_cons_zero, List.getElem?_cons_succ, eq_self, Int.reduceLT, Int.reduceLE, Int.reduceNeg, Int.reduceEq, e8]
      refine .inl ⟨by kernel_rfl, ?_⟩; refine isBox_c pb ?_
      rw [hbox]
      cases hres : (lo.zip hi).all ltP with
      | false =>
        rw [hres] at hQ
        simp (disch := omega) only [VW, VY, VZ, VA, VB, VC, VE, TY, ↓reduceIte, Nat.reduceEqDiff, Nat.reduceAdd, Nat.reduceMul, Nat.reduceSub, Nat.reduceLeDiff, List.length_cons, List.length_nil, List.length_append, List.append_assoc, List.take_succ_cons, List.take_zero, List.drop_succ_cons, List.drop_zero, List.set_cons_zero, List.set_cons_succ, true_or, or_true, and_self, Bool.false_eq_true, Nat.le_refl, Option.bind_some, Option.map_some, Option.getD_some, Option.isSome_some, List.map_cons, List.map_nil, List.cons_append, List.nil_append, List.append_nil, List.getElem?_cons_zero, List.getElem?_cons_succ, eq_self, Int.reduceLT, Int.reduceLE, Int.reduceNeg, Int.reduceEq, e6]
        refine sep_store (u.pull 3 rfl) (by simp) fun h9 u => ?_
        have u := u.as (ds := [.int .i64 0, .slice none 0 0, .slice none 0 0]) (by simp [t_put])
        have gz := u.rdAll (n := 3) rfl
        simp (disch := omega) only [VW, VY, VZ, VA, VB, VC, VE, TY, ↓reduceIte, Nat.reduceEqDiff, Nat.reduceAdd, Nat.reduceMul, Nat.reduceSub, Nat.reduceLeDiff, List.length_cons, List.length_nil, List.length_append, List.append_assoc, List.take_succ_cons, List.take_zero, List.drop_succ_cons, List.drop_zero, List.set_cons_zero, List.set_cons_succ, true_or, or_true, and_self, Bool.false_eq_true, Nat.le_refl, Option.bind_some, Option.map_some, Option.getD_some, Option.isSome_some, List.map_cons, List.map_nil, List.cons_append, List.nil_append, List.append_nil, List.getElem?_cons_zero, List.getElem?_cons_succ, eq_self, Int.reduceLT, Int.reduceLE, Int.reduceNeg, Int.reduceEq, gz, e6]
        exact hQ _ _ rfl u.ext
      | true =>
        rw [hres] at hQ
        have ga := u.rdAll (n := 3) rfl
        simp (disch := omega) only [VW, VY, VZ, VA, VB, VC, VE, TY, ↓reduceIte, Nat.reduceEqDiff, Nat.reduceAdd, Nat.reduceMul, Nat.reduceSub, Nat.reduceLeDiff, List.length_cons, List.length_nil, List.length_append, List.append_assoc, List.take_succ_cons, List.take_zero, List.drop_succ_cons, List.drop_zero, List.set_cons_zero, List.set_cons_succ, true_or, or_true, and_self, Bool.false_eq_true, Nat.le_refl, Option.bind_some, Option.map_some, Option.getD_some, Option.isSome_some, List.map_cons, List.map_nil, List.cons_append, List.nil_append, List.append_nil, List.getElem?_cons_zero, List.getElem?_cons_succ, eq_self, Int.reduceLT, Int.reduceLE, Int.reduceNeg, Int.reduceEq, e6, e8, ga]
        refine sep_store (u.pull 3 rfl) (by simp) fun h9 u => ?_
        have u := u.as (ds := [.int .i64 (m : Int), ul, uh]) (by simp [t_put])
        have gz := u.rdAll (n := 3) rfl
        simp (disch := omega) only [VW, VY, VZ, VA, VB, VC, VE, TY, ↓reduceIte, Nat.reduceEqDiff, Nat.reduceAdd, Nat.reduceMul, Nat.reduceSub, Nat.reduceLeDiff, List.length_cons, List.length_nil, List.length_append, List.append_assoc, List.take_succ_cons, List.take_zero, List.drop_succ_cons, List.drop_zero, List.set_cons_zero, List.set_cons_succ, true_or, or_true, and_self, Bool.false_eq_true, Nat.le_refl, Option.bind_some, Option.map_some, Option.getD_some, Option.isSome_some, List.map_cons, List.map_nil, List.cons_append, List.nil_append, List.append_nil, List.getElem?_cons_zero, List.getElem?_cons_succ, eq_self, Int.reduceLT, Int.reduceLE, Int.reduceNeg, Int.reduceEq, gz, e6, p1, p2]
        exact hQ _ _ rfl u.ext
    | false =>
      obtain ⟨hpo, hev1, hev2⟩ := zip_odd (by omega) hodd
      have km : IntKind.i64.wrap ((m : Int) - 1) = (q : Int) := by rw [wrap_in _ (by omega)]; omega
      have hmm : mostM (m : Int) = 2 * mostM (q : Int) := by rw [hq]; exact mostM_step q
      simp (disch := omega) only [VW, VY, VZ, VA, VB, VC, VE, TY, ↓reduceIte, Nat.reduceEqDiff, Nat.reduceAdd, Nat.reduceMul, Nat.reduceSub, Nat.reduceLeDiff, List.length_cons, List.length_nil, List.length_append, List.append_assoc, List.take_succ_cons, List.take_zero, List.drop_succ_cons, List.drop_zero, List.set_cons_zero, List.set_cons_succ, true_or, or_true, and_self, Bool.false_eq_true, Nat.le_refl, Option.bind_some, Option.map_some, Option.getD_some, Option.isSome_some, List.map_cons, List.map_nil, List.cons_append, List.nil_append, List.append_nil, List.getElem?_cons_zero, List.getElem?_cons_succ, eq_self, Int.reduceLT, Int.reduceLE, Int.reduceNeg, Int.reduceEq, e8, gb, km]
      refine sep_store u (by simp) fun h5 u => ?_
      have u := u.as (ds := [.int .i64 (q : Int), ul, uh]) (by simp [t_put])
      have gb := u.rd
      simp (disch := omega) only [VW, VY, VZ, VA, VB, VC, VE, TY, ↓reduceIte, Nat.reduceEqDiff, Nat.reduceAdd, Nat.reduceMul, Nat.reduceSub, Nat.reduceLeDiff, List.length_cons, List.length_nil, List.length_append, List.append_assoc, List.take_succ_cons, List.take_zero, List.drop_succ_cons, List.drop_zero, List.set_cons_zero, List.set_cons_succ, true_or, or_true, and_self, Bool.false_eq_true, Nat.le_refl, Option.bind_some, Option.map_some, Option.getD_some, Option.isSome_some, List.map_cons, List.map_nil, List.cons_append, List.nil_append, List.append_nil, List.getElem?_cons_zero, List.getElem?_cons_succ, eq_self, Int.reduceLT, Int.reduceLE, Int.reduceNeg, Int.reduceEq, e8, gb, c1, c2]
      have u := u.newBlk [ul, uh] 34 true
      generalize hhC : h5 = hC at *
      refine loop_rule (fun n e h' => ∃ (j : Nat), e 6 = .pointer (some ⟨h.length, 0, none⟩) ∧ e 8 = .pointer (some ⟨hB.length, 0, none⟩) ∧ e 39 = .slice (some ⟨hC.length, 0, none⟩) 2 2 ∧ e 40 = .int .i64 (2 : Nat) ∧ e 41 = .int .i64 (j : Int) ∧ j ≤ 2 ∧ n = 2 - j ∧
        Sep h h' [blkA hC.length [ul, uh] 34, blkA hB.length [.int .i64 (q : Int), ul, uh] 42, ownA 3 (if 1 ≤ j then hfL cl else cl) ul, ownA 3 (if 2 ≤ j then hfL ch else ch) uh, blkA h.length [.int .i64 0, .slice none 0 0, .slice none 0 0] 42]) ?_ 2 _ _
        ⟨0, e6, e8, rfl, rfl, rfl, by omega, rfl, u⟩
      rintro n e h7 ⟨j, e6, e8, e39, e40, e41, hj, rfl, u⟩
      simp (disch := omega) only [VW, VY, VZ, VA, VB, VC, VE, TY, ↓reduceIte, Nat.reduceEqDiff, Nat.reduceAdd, Nat.reduceMul, Nat.reduceSub, Nat.reduceLeDiff, List.length_cons, List.length_nil, List.length_append, List.append_assoc, List.take_succ_cons, List.take_zero, List.drop_succ_cons, List.drop_zero, List.set_cons_zero, List.set_cons_succ, true_or, or_true, and_self, Bool.false_eq_true, Nat.le_refl, Option.bind_some, Option.map_some, Option.getD_some, Option.isSome_some, List.map_cons, List.map_nil, List.cons_append, List.nil_append, List.append_nil, List.getElem?_cons_zero, List.getElem?_cons_succ, eq_self, Int.reduceLT, Int.reduceLE, Int.reduceNeg, Int.reduceEq, e40, e41]
      match j, hj with
      | 0, hj =>
        have u : Sep h h7 [blkA hC.length [ul, uh] 34, blkA hB.length [.int .i64 (q : Int), ul, uh] 42, ownA 3 cl ul, ownA 3 ch uh, blkA h.length [.int .i64 0, .slice none 0 0, .slice none 0 0] 42] := u
        have r0 := (u.pull 2 rfl).row
        have gc := u.rd
        have isr : IsRow (.slice (some ⟨hC.length, 0, none⟩) 2 2) 2 := .inr ⟨_, _, _, rfl, Nat.le_refl _⟩
        have rix := isr.ix Try.prog
        have rb2 : rowB (.slice (some ⟨hC.length, 0, none⟩) 2 2) = hC.length := rfl
        have ro2 : rowO (.slice (some ⟨hC.length, 0, none⟩) 2 2) = 0 := rfl
        have q1 : ((0 : Nat) : Int) < ((2 : Nat) : Int) := by decide
        have q2 : ((0 : Nat) : Int) < 2 := by decide
        have tj : ((0 : Nat) : Int).toNat = 0 := rfl
        have q0 : (0 : Int) ≤ ((0 : Nat) : Int) := by decide
        simp (disch := omega) only [VW, VY, VZ, VA, VB, VC, VE, TY, ↓reduceIte, Nat.reduceEqDiff, Nat.reduceAdd, Nat.reduceMul, Nat.reduceSub, Nat.reduceLeDiff, List.length_cons, List.length_nil, List.length_append, List.append_assoc, List.take_succ_cons, List.take_zero, List.drop_succ_cons, List.drop_zero, List.set_cons_zero, List.set_cons_succ, true_or, or_true, and_self, Bool.false_eq_true, Nat.le_refl, Option.bind_some, Option.map_some, Option.getD_some, Option.isSome_some, List.map_cons, List.map_nil, List.cons_append, List.nil_append, List.append_nil, List.getElem?_cons_zero, List.getElem?_cons_succ, eq_self, Int.reduceLT, Int.reduceLE, Int.reduceNeg, Int.reduceEq, e39, e40, e41, rix, rb2, ro2, q0, q1, q2, tj, gc, r0.isRow.len]
        refine loop_rule (fun n e h' => ∃ (i : Nat), e 6 = .pointer (some ⟨h.length, 0, none⟩) ∧ e 8 = .pointer (some ⟨hB.length, 0, none⟩) ∧ e 10 = ul ∧ e 39 = .slice (some ⟨hC.length, 0, none⟩) 2 2 ∧ e 40 = .int .i64 (2 : Nat) ∧ e 41 = .int .i64 ((0 : Nat) : Int) ∧ e 46 = .int .i64 (cl.length : Int) ∧ e 47 = .int .i64 (i : Int) ∧ i ≤ cl.length ∧ n = cl.length - i ∧
          Sep h h' [ownA 3 (hv i cl) ul, blkA hC.length [ul, uh] 34, blkA hB.length [.int .i64 (q : Int), ul, uh] 42, ownA 3 ch uh, blkA h.length [.int .i64 0, .slice none 0 0, .slice none 0 0] 42]) ?_ cl.length _ _
          ⟨0, e6, e8, rfl, e39, e40, e41, rfl, rfl, Nat.zero_le _, rfl, by rw [hv_zero]; exact u.pull 2 rfl⟩
        rintro n e h8 ⟨i, e6, e8, e10, e39, e40, e41, e46, e47, hi, rfl, u⟩
        have ri := u.row
        have hln := hv_len i cl
        have rix2 := ri.isRow.ix Try.prog
        rw [hln] at rix2
        simp (disch := omega) only [VW, VY, VZ, VA, VB, VC, VE, TY, ↓reduceIte, Nat.reduceEqDiff, Nat.reduceAdd, Nat.reduceMul, Nat.reduceSub, Nat.reduceLeDiff, List.length_cons, List.length_nil, List.length_append, List.append_assoc, List.take_succ_cons, List.take_zero, List.drop_succ_cons, List.drop_zero, List.set_cons_zero, List.set_cons_succ, true_or, or_true, and_self, Bool.false_eq_true, Nat.le_refl, Option.bind_some, Option.map_some, Option.getD_some, Option.isSome_some, List.map_cons, List.map_nil, List.cons_append, List.nil_append, List.append_nil, List.getElem?_cons_zero, List.getElem?_cons_succ, eq_self, Int.reduceLT, Int.reduceLE, Int.reduceNeg, Int.reduceEq, e46, e47]
        by_cases hlt : i < cl.length
        · obtain ⟨x, hx⟩ := get_some hlt
          have qi : (i : Int) < (cl.length : Int) := by omega
          obtain ⟨x1, x2⟩ := row_int ri (hv_get hx)
          have hxb := ib1 x (List.mem_of_getElem? hx)
          have hmo := mostM_le (k := (m : Int)) ⟨by omega, by omega⟩
          have htb := tdiv_small (x := x) ⟨by omega, by omega⟩
          have z2 : ¬ (2 : Int) = 0 := by decide
          have wq : IntKind.i64.wrap (Int.tdiv x 2) = Int.tdiv x 2 := wrap_in _ (by omega)
          have sp := u.rep0 (x := Int.tdiv x 2) (rep_int ⟨by omega, by omega⟩)
          simp (disch := omega) only [VW, VY, VZ, VA, VB, VC, VE, TY, ↓reduceIte, Nat.reduceEqDiff, Nat.reduceAdd, Nat.reduceMul, Nat.reduceSub, Nat.reduceLeDiff, List.length_cons, List.length_nil, List.length_append, List.append_assoc, List.take_succ_cons, List.take_zero, List.drop_succ_cons, List.drop_zero, List.set_cons_zero, List.set_cons_succ, true_or, or_true, and_self, Bool.false_eq_true, Nat.le_refl, Option.bind_some, Option.map_some, Option.getD_some, Option.isSome_some, List.map_cons, List.map_nil, List.cons_append, List.nil_append, List.append_nil, List.getElem?_cons_zero, List.getElem?_cons_succ, eq_self, Int.reduceLT, Int.reduceLE, Int.reduceNeg, Int.reduceEq, e10, e47, qi, rix2, x1, z2, wq]
          refine sep_set1 (i := i) (y := Int.tdiv x 2) (Sep.swap sp) rfl (by omega) fun h9 u => ?_
          simp (disch := omega) only [VW, VY, VZ, VA, VB, VC, VE, TY, ↓reduceIte, Nat.reduceEqDiff, Nat.reduceAdd, Nat.reduceMul, Nat.reduceSub, Nat.reduceLeDiff, List.length_cons, List.length_nil, List.length_append, List.append_assoc, List.take_succ_cons, List.take_zero, List.drop_succ_cons, List.drop_zero, List.set_cons_zero, List.set_cons_succ, true_or, or_true, and_self, Bool.false_eq_true, Nat.le_refl, Option.bind_some, Option.map_some, Option.getD_some, Option.isSome_some, List.map_cons, List.map_nil, List.cons_append, List.nil_append, List.append_nil, List.getElem?_cons_zero, List.getElem?_cons_succ, eq_self, Int.reduceLT, Int.reduceLE, Int.reduceNeg, Int.reduceEq, e6, e8, e10, e39, e40, e41, e46, e47, wrap_in]
          refine ⟨_, by omega, i + 1, by simp, by omega, rfl, ?_⟩
          rw [hv_set hx] at u
          exact u
        · obtain rfl : i = cl.length := by omega
          have qi : ¬ (cl.length : Int) < (cl.length : Int) := by omega
          rw [hv_full] at u
          simp (disch := omega) only [VW, VY, VZ, VA, VB, VC, VE, TY, ↓reduceIte, Nat.reduceEqDiff, Nat.reduceAdd, Nat.reduceMul, Nat.reduceSub, Nat.reduceLeDiff, List.length_cons, List.length_nil, List.length_append, List.append_assoc, List.take_succ_cons, List.take_zero, List.drop_succ_cons, List.drop_zero, List.set_cons_zero, List.set_cons_succ, true_or, or_true, and_self, Bool.false_eq_true, Nat.le_refl, Option.bind_some, Option.map_some, Option.getD_some, Option.isSome_some, List.map_cons, List.map_nil, List.cons_append, List.nil_append, List.append_nil, List.getElem?_cons_zero, List.getElem?_cons_succ, eq_self, Int.reduceLT, Int.reduceLE, Int.reduceNeg, Int.reduceEq, qi, e6, e8, e39, e40, e41, wrap_in]
          refine ⟨_, by omega, 1, by simp, by omega, rfl, ?_⟩
          exact ((u.pull 2 rfl).pull 2 rfl)
      | 1, hj =>
        have u : Sep h h7 [blkA hC.length [ul, uh] 34, blkA hB.length [.int .i64 (q : Int), ul, uh] 42, ownA 3 (hfL cl) ul, ownA 3 ch uh, blkA h.length [.int .i64 0, .slice none 0 0, .slice none 0 0] 42] := u
        have r0 := (u.pull 3 rfl).row
        have gc := u.rd
        have isr : IsRow (.slice (some ⟨hC.length, 0, none⟩) 2 2) 2 := .inr ⟨_, _, _, rfl, Nat.le_refl _⟩
        have rix := isr.ix Try.prog
        have rb2 : rowB (.slice (some ⟨hC.length, 0, none⟩) 2 2) = hC.length := rfl
        have ro2 : rowO (.slice (some ⟨hC.length, 0, none⟩) 2 2) = 0 := rfl
        have q1 : ((1 : Nat) : Int) < ((2 : Nat) : Int) := by decide
        have q2 : ((1 : Nat) : Int) < 2 := by decide
        have tj : ((1 : Nat) : Int).toNat = 1 := rfl
        have q0 : (0 : Int) ≤ ((1 : Nat) : Int) := by decide
        simp (disch := omega) only [VW, VY, VZ, VA, VB, VC, VE, TY, ↓reduceIte, Nat.reduceEqDiff, Nat.reduceAdd, Nat.reduceMul, Nat.reduceSub, Nat.reduceLeDiff, List.length_cons, List.length_nil, List.length_append, List.append_assoc, List.take_succ_cons, List.take_zero, List.drop_succ_cons, List.drop_zero, List.set_cons_zero, List.set_cons_succ, true_or, or_true, and_self, Bool.false_eq_true, Nat.le_refl, Option.bind_some, Option.map_some, Option.getD_some, Option.isSome_some, List.map_cons, List.map_nil, List.cons_append, List.nil_append, List.append_nil, List.getElem?_cons_zero, List.getElem?_cons_succ, eq_self, Int.reduceLT, Int.reduceLE, Int.reduceNeg, Int.reduceEq, e39, e40, e41, rix, rb2, ro2, q0, q1, q2, tj, gc, r0.isRow.len]
        refine loop_rule (fun n e h' => ∃ (i : Nat), e 6 = .pointer (some ⟨h.length, 0, none⟩) ∧ e 8 = .pointer (some ⟨hB.length, 0, none⟩) ∧ e 10 = uh ∧ e 39 = .slice (some ⟨hC.length, 0, none⟩) 2 2 ∧ e 40 = .int .i64 (2 : Nat) ∧ e 41 = .int .i64 ((1 : Nat) : Int) ∧ e 46 = .int .i64 (ch.length : Int) ∧ e 47 = .int .i64 (i : Int) ∧ i ≤ ch.length ∧ n = ch.length - i ∧
          Sep h h' [ownA 3 (hv i ch) uh, blkA hC.length [ul, uh] 34, blkA hB.length [.int .i64 (q : Int), ul, uh] 42, ownA 3 (hfL cl) ul, blkA h.length [.int .i64 0, .slice none 0 0, .slice none 0 0] 42]) ?_ ch.length _ _
          ⟨0, e6, e8, rfl, e39, e40, e41, rfl, rfl, Nat.zero_le _, rfl, by rw [hv_zero]; exact u.pull 3 rfl⟩
        rintro n e h8 ⟨i, e6, e8, e10, e39, e40, e41, e46, e47, hi, rfl, u⟩
        have ri := u.row
        have hln := hv_len i ch
        have rix2 := ri.isRow.ix Try.prog
        rw [hln] at rix2
        simp (disch := omega) only [VW, VY, VZ, VA, VB, VC, VE, TY, ↓reduceIte, Nat.reduceEqDiff, Nat.reduceAdd, Nat.reduceMul, Nat.reduceSub, Nat.reduceLeDiff, List.length_cons, List.length_nil, List.length_append, List.append_assoc, List.take_succ_cons, List.take_zero, List.drop_succ_cons, List.drop_zero, List.set_cons_zero, List.set_cons_succ, true_or, or_true, and_self, Bool.false_eq_true, Nat.le_refl, Option.bind_some, Option.map_some, Option.getD_some, Option.isSome_some, List.map_cons, List.map_nil, List.cons_append, List.nil_append, List.append_nil, List.getElem?_cons_zero, List.getElem?_cons_succ, eq_self, Int.reduceLT, Int.reduceLE, Int.reduceNeg, Int.reduceEq, e46, e47]
        by_cases hlt : i < ch.length
        · obtain ⟨x, hx⟩ := get_some hlt
          have qi : (i : Int) < (ch.length : Int) := by omega
          obtain ⟨x1, x2⟩ := row_int ri (hv_get hx)
          have hxb := ib2 x (List.mem_of_getElem? hx)
          have hmo := mostM_le (k := (m : Int)) ⟨by omega, by omega⟩
          have htb := tdiv_small (x := x) ⟨by omega, by omega⟩
          have z2 : ¬ (2 : Int) = 0 := by decide
          have wq : IntKind.i64.wrap (Int.tdiv x 2) = Int.tdiv x 2 := wrap_in _ (by omega)
          have sp := u.rep0 (x := Int.tdiv x 2) (rep_int ⟨by omega, by omega⟩)
          simp (disch := omega) only [VW, VY, VZ, VA, VB, VC, VE, TY, ↓reduceIte, Nat.reduceEqDiff, Nat.reduceAdd, Nat.reduceMul, Nat.reduceSub, Nat.reduceLeDiff, List.length_cons, List.length_nil, List.length_append, List.append_assoc, List.take_succ_cons, List.take_zero, List.drop_succ_cons, List.drop_zero, List.set_cons_zero, List.set_cons_succ, true_or, or_true, and_self, Bool.false_eq_true, Nat.le_refl, Option.bind_some, Option.map_some, Option.getD_some, Option.isSome_some, List.map_cons, List.map_nil, List.cons_append, List.nil_append, List.append_nil, List.getElem?_cons_zero, List.getElem?_cons_succ, eq_self, Int.reduceLT, Int.reduceLE, Int.reduceNeg, Int.reduceEq, e10, e47, qi, rix2, x1, z2, wq]
          refine sep_set1 (i := i) (y := Int.tdiv x 2) (Sep.swap sp) rfl (by omega) fun h9 u => ?_
          simp (disch := omega) only [VW, VY, VZ, VA, VB, VC, VE, TY, ↓reduceIte, Nat.reduceEqDiff, Nat.reduceAdd, Nat.reduceMul, Nat.reduceSub, Nat.reduceLeDiff, List.length_cons, List.length_nil, List.length_append, List.append_assoc, List.take_succ_cons, List.take_zero, List.drop_succ_cons, List.drop_zero, List.set_cons_zero, List.set_cons_succ, true_or, or_true, and_self, Bool.false_eq_true, Nat.le_refl, Option.bind_some, Option.map_some, Option.getD_some, Option.isSome_some, List.map_cons, List.map_nil, List.cons_append, List.nil_append, List.append_nil, List.getElem?_cons_zero, List.getElem?_cons_succ, eq_self, Int.reduceLT, Int.reduceLE, Int.reduceNeg, Int.reduceEq, e6, e8, e10, e39, e40, e41, e46, e47, wrap_in]
          refine ⟨_, by omega, i + 1, by simp, by omega, rfl, ?_⟩
          rw [hv_set hx] at u
          exact u
        · obtain rfl : i = ch.length := by omega
          have qi : ¬ (ch.length : Int) < (ch.length : Int) := by omega
          rw [hv_full] at u
          simp (disch := omega) only [VW, VY, VZ, VA, VB, VC, VE, TY, ↓reduceIte, Nat.reduceEqDiff, Nat.reduceAdd, Nat.reduceMul, Nat.reduceSub, Nat.reduceLeDiff, List.length_cons, List.length_nil, List.length_append, List.append_assoc, List.take_succ_cons, List.take_zero, List.drop_succ_cons, List.drop_zero, List.set_cons_zero, List.set_cons_succ, true_or, or_true, and_self, Bool.false_eq_true, Nat.le_refl, Option.bind_some, Option.map_some, Option.getD_some, Option.isSome_some, List.map_cons, List.map_nil, List.cons_append, List.nil_append, List.append_nil, List.getElem?_cons_zero, List.getElem?_cons_succ, eq_self, Int.reduceLT, Int.reduceLE, Int.reduceNeg, Int.reduceEq, qi, e6, e8, e39, e40, e41, wrap_in]
          refine ⟨_, by omega, 2, by simp, by omega, rfl, ?_⟩
          exact (((u.pull 3 rfl).pull 3 rfl).pull 3 rfl)
      | 2, hj =>
        have u : Sep h h7 [blkA hC.length [ul, uh] 34, blkA hB.length [.int .i64 (q : Int), ul, uh] 42, ownA 3 (hfL cl) ul, ownA 3 (hfL ch) uh, blkA h.length [.int .i64 0, .slice none 0 0, .slice none 0 0] 42] := u
        have q1 : ¬ ((2 : Nat) : Int) < ((2 : Nat) : Int) := by decide
        have q2 : ¬ ((2 : Nat) : Int) < 2 := by decide
        simp (disch := omega) only [VW, VY, VZ, VA, VB, VC, VE, TY, ↓reduceIte, Nat.reduceEqDiff, Nat.reduceAdd, Nat.reduceMul, Nat.reduceSub, Nat.reduceLeDiff, List.length_cons, List.length_nil, List.length_append, List.append_assoc, List.take_succ_cons, List.take_zero, List.drop_succ_cons, List.drop_zero, List.set_cons_zero, List.set_cons_succ, true_or, or_true, and_self, Bool.false_eq_true, Nat.le_refl, Option.bind_some, Option.map_some, Option.getD_some, Option.isSome_some, List.map_cons, List.map_nil, List.cons_append, List.nil_append, List.append_nil, List.getElem?_cons_zero, List.getElem?_cons_succ, eq_self, Int.reduceLT, Int.reduceLE, Int.reduceNeg, Int.reduceEq, q1, q2, e6, e8]
        refine ⟨q, by omega, q, hfL cl, hfL ch, by omega, rfl, by rw [hfL_len]; exact hcl, by rw [hfL_len]; exact hch, half_small (fun n hn => by have := ib1 n hn; omega) hev1, half_small (fun n hn => by have := ib2 n hn; omega) hev2, by rw [← hT]; exact half_lt hpo, u.tail⟩
      | j + 3, hj => omega
end Go.Proofs

/- Contracts of functions, facts of types, or the plain law behind one statement (own work): XL. Conditions: those told in each theorem. -/
import Derived.Test.YtiiolloielppeaaXK
set_option linter.all false
set_option linter.unusedSimpArgs false
set_option linter.unusedVariables false
set_option maxRecDepth 4000
namespace Go.Proofs
open Go Go.V
theorem any_odd_pair {l m : List Int} (hm : m.length = l.length) (h : (l.zip m).any pairOdd = false) : (∀ n ∈ l, oddI n = false) ∧ ∀ n ∈ m, oddI n = false := by
  rw [← any_pair l m hm] at h
  exact (zip_odd hm h).2
theorem bxMake_c {k : Nat} {lo hi : List Int} {vl vh : Value} {h : Heap} {Q : Value → Heap → Prop} (rl : Row h lo vl) (rh : Row h hi vh) (hk : k ≤ 8) (h1 : 1 ≤ lo.length) (h3 : lo.length ≤ 3) (hm : hi.length = lo.length)
    (b1 : InB (mostM (k : Int)) lo) (b2 : InB (mostM (k : Int)) hi)
    (hQ : ∀ (cs : List Value) h', cs.length = 3 → Ext h h' → Q (.tuple #[.agg cs.toArray, .bool ((lo.zip hi).all ltP)]) h') :
    CallsV Try.prog 83 [.int .i64 (k : Int), vl, vh] h Q := by
  refine CallsV.start Try.func83 rfl (by rw [Try.results83]) (by kernel_rfl) (by rw [Try.ntmps83]; simp) ?_
  have u := Sep.blk1 h [.int .i64 0, .slice none 0 0, .slice none 0 0] 42 true
  simp (disch := omega) only [VW, VY, VZ, VA, VB, VC, VE, TY, ↓reduceIte, Nat.reduceEqDiff, Nat.reduceAdd, Nat.reduceMul, Nat.reduceSub, Nat.reduceLeDiff, List.length_cons, List.length_nil, List.length_append, List.append_assoc, List.take_succ_cons, List.take_zero, List.drop_succ_cons, List.drop_zero, List.set_cons_zero, List.set_cons_succ, true_or, or_true, and_self, Bool.false_eq_true, Nat.le_refl, Option.bind_some, Option.map_some, Option.getD_some, Option.isSome_some, List.map_cons, List.map_nil, List.cons_append, List.nil_append, List.append_nil, List.getElem?_cons_zero, List.getElem?_cons_succ, eq_self, Int.reduceLT, Int.reduceLE, Int.reduceNeg, Int.reduceEq]
  refine .inl ⟨by kernel_rfl, ?_⟩; refine l1Own_c (rl.mono u.ext) (by omega) fun ul hA sA => ?_
  have u := u.add sA
  simp (disch := omega) only [VW, VY, VZ, VA, VB, VC, VE, TY, ↓reduceIte, Nat.reduceEqDiff, Nat.reduceAdd, Nat.reduceMul, Nat.reduceSub, Nat.reduceLeDiff, List.length_cons, List.length_nil, List.length_append, List.append_assoc, List.take_succ_cons, List.take_zero, List.drop_succ_cons, List.drop_zero, List.set_cons_zero, List.set_cons_succ, true_or, or_true, and_self, Bool.false_eq_true, Nat.le_refl, Option.bind_some, Option.map_some, Option.getD_some, Option.isSome_some, List.map_cons, List.map_nil, List.cons_append, List.nil_append, List.append_nil, List.getElem?_cons_zero, List.getElem?_cons_succ, eq_self, Int.reduceLT, Int.reduceLE, Int.reduceNeg, Int.reduceEq]
  refine .inl ⟨by kernel_rfl, ?_⟩; refine l1Own_c (rh.mono u.ext) (by omega) fun uh hB sB => ?_
  have u := u.add sB
  have cu1 := sA.row.isRow.cells
  have cu2 := sB.row.isRow.cells
  have u : Sep h hB [ownA 3 hi uh, ownA 3 lo ul, blkA h.length [.int .i64 0, .slice none 0 0, .slice none 0 0] 42] := u
  have u := u.newBlk [.int .i64 (k : Int), ul, uh] 42 true
  simp (disch := omega) only [VW, VY, VZ, VA, VB, VC, VE, TY, ↓reduceIte, Nat.reduceEqDiff, Nat.reduceAdd, Nat.reduceMul, Nat.reduceSub, Nat.reduceLeDiff, List.length_cons, List.length_nil, List.length_append, List.append_assoc, List.take_succ_cons, List.take_zero, List.drop_succ_cons, List.drop_zero, List.set_cons_zero, List.set_cons_succ, true_or, or_true, and_self, Bool.false_eq_true, Nat.le_refl, Option.bind_some, Option.map_some, Option.getD_some, Option.isSome_some, List.map_cons, List.map_nil, List.cons_append, List.nil_append, List.append_nil, List.getElem?_cons_zero, List.getElem?_cons_succ, eq_self, Int.reduceLT, Int.reduceLE, Int.reduceNeg, Int.reduceEq, cu1, cu2]
  refine loop_rule (fun n e h' => ∃ (m : Nat) (cl ch : List Int), e 6 = .pointer (some ⟨h.length, 0, none⟩) ∧ e 8 = .pointer (some ⟨hB.length, 0, none⟩) ∧ m ≤ 8 ∧ m = n ∧ cl.length = lo.length ∧ ch.length = lo.length ∧ InB (mostM (m : Int)) cl ∧ InB (mostM (m : Int)) ch ∧ (cl.zip ch).all ltP = (lo.zip hi).all ltP ∧
    Sep h h' [blkA hB.length [.int .i64 (m : Int), ul, uh] 42, ownA 3 cl ul, ownA 3 ch uh, blkA h.length [.int .i64 0, .slice none 0 0, .slice none 0 0] 42]) ?_ k _ _
    ⟨k, lo, hi, rfl, rfl, hk, rfl, rfl, hm, b1, b2, rfl, (u.pull 2 rfl).pull 1 rfl⟩
  rintro n e h' ⟨m, cl, ch, e6, e8, hm8, rfl, hcl, hch, ib1, ib2, hT, u⟩
  have gb := u.rd
  have ga := u.rdAll (n := 3) rfl
  have c1 := (u.pull 1 rfl).row.isRow.cells
  have c2 := (u.pull 2 rfl).row.isRow.cells
  have p1 := (u.pull 1 rfl).row.isRow.plain
  have p2 := (u.pull 2 rfl).row.isRow.plain
  have fin : ∀ {H : Heap} {e : Env}, (u : Sep h H [blkA hB.length [.int .i64 (m : Int), ul, uh] 42, ownA 3 cl ul, ownA 3 ch uh, blkA h.length [.int .i64 0, .slice none 0 0, .slice none 0 0] 42]) → (m = 0 ∨ (cl.zip ch).any pairOdd = true) → Here H (⟨(m : Int), cl, ch⟩ : Bx) [.int .i64 (m : Int), ul, uh] ∧ boxM (⟨(m : Int), cl, ch⟩ : Bx) = (lo.zip hi).all ltP := fun u ho =>
    ⟨mk_Bx (x := ⟨(m : Int), cl, ch⟩) (show inI64 (m : Int) from ⟨by omega, by omega⟩) (u.pull 1 rfl).row (u.pull 2 rfl).row, by rw [← hT]; exact box_of ⟨by omega, by omega⟩ (by omega) (by omega) (by omega) ib1 ib2 (ho.imp (fun h => by omega) id)⟩
  have hev : Here h' (⟨(m : Int), cl, ch⟩ : Bx) [.int .i64 (m : Int), ul, uh] := mk_Bx (x := ⟨(m : Int), cl, ch⟩) (show inI64 (m : Int) from ⟨by omega, by omega⟩) (u.pull 1 rfl).row (u.pull 2 rfl).row
  rcases Nat.eq_zero_or_pos m with hm0 | hm0
  · have z0 : ¬ (0 : Int) < (m : Int) := by omega
    simp (disch := omega) only [VW, VY, VZ, VA, VB, VC, VE, TY, ↓reduceIte, Nat.reduceEqDiff, Nat.reduceAdd, Nat.reduceMul, Nat.reduceSub, Nat.reduceLeDiff, List.length_cons, List.length_nil, List.length_append, List.append_assoc, List.take_succ_cons, List.take_zero, List.drop_succ_cons, List.drop_zero, List.set_cons_zero, List.set_cons_succ, true_or, or_true, and_self, Bool.false_eq_true, Nat.le_refl, Option.bind_some, Option.map_some, Option.getD_some, Option.isSome_some, List.map_cons, List.map_nil, List.cons_append, List.nil_append, List.append_nil, List.getElem?_cons_zero, List.getElem?_cons_succ, eq_self, Int.reduceLT, Int.reduceLE, Int.reduceNeg, Int.reduceEq, e8, gb, z0]
    obtain ⟨hh, hbox⟩ := fin (e := e) u (.inl hm0)
    simp (disch := omega) only [VW, VY, VZ, VA, VB, VC, VE, TY, ↓reduceIte, Nat.reduceEqDiff, Nat.reduceAdd, Nat.reduceMul, Nat.reduceSub, Nat.reduceLeDiff, List.length_cons, List.length_nil, List.length_append, List.append_assoc, List.take_succ_cons, List.take_zero, List.drop_succ_cons, List.drop_zero, List.set_cons_zero, List.set_cons_succ, true_or, or_true, and_self, Bool.false_eq_true, Nat.le_refl, Option.bind_some, Option.map_some, Option.getD_some, Option.isSome_some, List.map_cons, List.map_nil, List.cons_append, List.nil_append, List.append_nil, List.getElem?_cons_zero, List.getElem?_cons_succ, eq_self, Int.reduceLT, Int.reduceLE, Int.reduceNeg, Int.reduceEq, e8, ga]
    refine .inl ⟨by kernel_rfl, ?_⟩; refine bxGood_c hh fun h9 E9 => ?_
    have u := u.mono E9
    have ga := u.rdAll (n := 3) rfl
    rw [hbox]
    cases hres : (lo.zip hi).all ltP with
    | false =>
      rw [hres] at hQ
      simp (disch := omega) only [VW, VY, VZ, VA, VB, VC, VE, TY, ↓reduceIte, Nat.reduceEqDiff, Nat.reduceAdd, Nat.reduceMul, Nat.reduceSub, Nat.reduceLeDiff, List.length_cons, List.length_nil, List.length_append, List.append_assoc, List.take_succ_cons, List.take_zero, List.drop_succ_cons, List.drop_zero, List.set_cons_zero, List.set_cons_succ, true_or, or_true, and_self, Bool.false_eq_true, Nat.le_refl, Option.bind_some, Option.map_some, Option.getD_some, Option.isSome_some, List.map_cons, List.map_nil, List.cons_append, List.nil_append, List.append_nil, List.getElem?_cons_zero, List.getElem?_cons_succ, eq_self, Int.reduceLT, Int.reduceLE, Int.reduceNeg, Int.reduceEq, e6]
      refine sep_store (u.pull 3 rfl) (by simp) fun h9 u => ?_
      have u := u.as (ds := [.int .i64 0, .slice none 0 0, .slice none 0 0]) (by simp [t_put])
      have gz := u.rdAll (n := 3) rfl
      simp (disch := omega) only [VW, VY, VZ, VA, VB, VC, VE, TY, ↓reduceIte, Nat.reduceEqDiff, Nat.reduceAdd, Nat.reduceMul, Nat.reduceSub, Nat.reduceLeDiff, List.length_cons, List.length_nil, List.length_append, List.append_assoc, List.take_succ_cons, List.take_zero, List.drop_succ_cons, List.drop_zero, List.set_cons_zero, List.set_cons_succ, true_or, or_true, and_self, Bool.false_eq_true, Nat.le_refl, Option.bind_some, Option.map_some, Option.getD_some, Option.isSome_some, List.map_cons, List.map_nil, List.cons_append, List.nil_append, List.append_nil, List.getElem?_cons_zero, List.getElem?_cons_succ, eq_self, Int.reduceLT, Int.reduceLE, Int.reduceNeg, Int.reduceEq, gz, e6]
      exact hQ _ _ rfl u.ext
    | true =>
      rw [hres] at hQ
      simp (disch := omega) only [VW, VY, VZ, VA, VB, VC, VE, TY, ↓reduceIte, Nat.reduceEqDiff, Nat.reduceAdd, Nat.reduceMul, Nat.reduceSub, Nat.reduceLeDiff, List.length_cons, List.length_nil, List.length_append, List.append_assoc, List.take_succ_cons, List.take_zero, List.drop_succ_cons, List.drop_zero, List.set_cons_zero, List.set_cons_succ, true_or, or_true, and_self, Bool.false_eq_true, Nat.le_refl, Option.bind_some, Option.map_some, Option.getD_some, Option.isSome_some, List.map_cons, List.map_nil, List.cons_append, List.nil_append, List.append_nil, List.getElem?_cons_zero, List.getElem?_cons_succ, eq_self, Int.reduceLT, Int.reduceLE, Int.reduceNeg, Int.reduceEq, e6, e8, ga]
      refine sep_store (u.pull 3 rfl) (by simp) fun h9 u => ?_
      have u := u.as (ds := [.int .i64 (m : Int), ul, uh]) (by simp [t_put])
      have gz := u.rdAll (n := 3) rfl
      simp (disch := omega) only [VW, VY, VZ, VA, VB, VC, VE, TY, ↓reduceIte, Nat.reduceEqDiff, Nat.reduceAdd, Nat.reduceMul, Nat.reduceSub, Nat.reduceLeDiff, List.length_cons, List.length_nil, List.length_append, List.append_assoc, List.take_succ_cons, List.take_zero, List.drop_succ_cons, List.drop_zero, List.set_cons_zero, List.set_cons_succ, true_or, or_true, and_self, Bool.false_eq_true, Nat.le_refl, Option.bind_some, Option.map_some, Option.getD_some, Option.isSome_some, List.map_cons, List.map_nil, List.cons_append, List.nil_append, List.append_nil, List.getElem?_cons_zero, List.getElem?_cons_succ, eq_self, Int.reduceLT, Int.reduceLE, Int.reduceNeg, Int.reduceEq, gz, e6, p1, p2]
      exact hQ _ _ rfl u.ext
  · have z0 : (0 : Int) < (m : Int) := by omega
    obtain ⟨q, hq⟩ : ∃ q, m = q + 1 := ⟨m - 1, by omega⟩
    simp (disch := omega) only [VW, VY, VZ, VA, VB, VC, VE, TY, ↓reduceIte, Nat.reduceEqDiff, Nat.reduceAdd, Nat.reduceMul, Nat.reduceSub, Nat.reduceLeDiff, List.length_cons, List.length_nil, List.length_append, List.append_assoc, List.take_succ_cons, List.take_zero, List.drop_succ_cons, List.drop_zero, List.set_cons_zero, List.set_cons_succ, true_or, or_true, and_self, Bool.false_eq_true, Nat.le_refl, Option.bind_some, Option.map_some, Option.getD_some, Option.isSome_some, List.map_cons, List.map_nil, List.cons_append, List.nil_append, List.append_nil, List.getElem?_cons_zero, List.getElem?_cons_succ, eq_self, Int.reduceLT, Int.reduceLE, Int.reduceNeg, Int.reduceEq, e8, gb, ga, z0]
    refine .inl ⟨by kernel_rfl, ?_⟩; refine bxEven_c hev (show ch.length = cl.length by omega) fun h9 E9 => ?_
    have u := u.mono E9
    have gb := u.rd
    have ga := u.rdAll (n := 3) rfl
    simp only []
    cases hodd : (cl.zip ch).any pairOdd with
    | true =>
      simp (disch := omega) only [VW, VY, VZ, VA, VB, VC, VE, TY, ↓reduceIte, Nat.reduceEqDiff, Nat.reduceAdd, Nat.reduceMul, Nat.reduceSub, Nat.reduceLeDiff, List.length_cons, List.length_nil, List.length_append, List.append_assoc, List.take_succ_cons, List.take_zero, List.drop_succ_cons, List.drop_zero, List.set_cons_zero, List.set_cons_succ, true_or, or_true, and_self, Bool.false_eq_true, Nat.le_refl, Option.bind_some, Option.map_some, Option.getD_some, Option.isSome_some, List.map_cons, List.map_nil, List.cons_append, List.nil_append, List.append_nil, List.getElem?_cons_zero, List.getElem?_cons_succ, eq_self, Int.reduceLT, Int.reduceLE, Int.reduceNeg, Int.reduceEq]
      obtain ⟨hh, hbox⟩ := fin (e := e) u (.inr hodd)
      simp (disch := omega) only [VW, VY, VZ, VA, VB, VC, VE, TY, ↓reduceIte, Nat.reduceEqDiff, Nat.reduceAdd, Nat.reduceMul, Nat.reduceSub, Nat.reduceLeDiff, List.length_cons, List.length_nil, List.length_append, List.append_assoc, List.take_succ_cons, List.take_zero, List.drop_succ_cons, List.drop_zero, List.set_cons_zero, List.set_cons_succ, true_or, or_true, and_self, Bool.false_eq_true, Nat.le_refl, Option.bind_some, Option.map_some, Option.getD_some, Option.isSome_some, List.map_cons, List.map_nil, List.cons_append, List.nil_append, List.append_nil, List.getElem?_cons_zero, List.getElem?_cons_succ, eq_self, Int.reduceLT, Int.reduceLE, Int.reduceNeg, Int.reduceEq, e8, ga]
      refine .inl ⟨by kernel_rfl, ?_⟩; refine bxGood_c hh fun h9 E9 => ?_
      have u := u.mono E9
      have ga := u.rdAll (n := 3) rfl
      rw [hbox]
      cases hres : (lo.zip hi).all ltP with
      | false =>
        rw [hres] at hQ
        simp (disch := omega) only [VW, VY, VZ, VA, VB, VC, VE, TY, ↓reduceIte, Nat.reduceEqDiff, Nat.reduceAdd, Nat.reduceMul, Nat.reduceSub, Nat.reduceLeDiff, List.length_cons, List.length_nil, List.length_append, List.append_assoc, List.take_succ_cons, List.take_zero, List.drop_succ_cons, List.drop_zero, List.set_cons_zero, List.set_cons_succ, true_or, or_true, and_self, Bool.false_eq_true, Nat.le_refl, Option.bind_some, Option.map_some, Option.getD_some, Option.isSome_some, List.map_cons, List.map_nil, List.cons_append, List.nil_append, List.append_nil, List.getElem?_cons_zero, List.getElem?_cons_succ, eq_self, Int.reduceLT, Int.reduceLE, Int.reduceNeg, Int.reduceEq, e6]
        refine sep_store (u.pull 3 rfl) (by simp) fun h9 u => ?_
        have u := u.as (ds := [.int .i64 0, .slice none 0 0, .slice none 0 0]) (by simp [t_put])
        have gz := u.rdAll (n := 3) rfl
        simp (disch := omega) only [VW, VY, VZ, VA, VB, VC, VE, TY, ↓reduceIte, Nat.reduceEqDiff, Nat.reduceAdd, Nat.reduceMul, Nat.reduceSub, Nat.reduceLeDiff, List.length_cons, List.length_nil, List.length_append, List.append_assoc, List.take_succ_cons, List.take_zero, List.drop_succ_cons, List.drop_zero, List.set_cons_zero, List.set_cons_succ, true_or, or_true, and_self, Bool.false_eq_true, Nat.le_refl, Option.bind_some, Option.map_some, Option.getD_some, Option.isSome_some, List.map_cons, List.map_nil, List.cons_append, List.nil_append, List.append_nil, List.getElem?_cons_zero, List.getElem?_cons_succ, eq_self, Int.reduceLT, Int.reduceLE, Int.reduceNeg, Int.reduceEq, gz, e6]
        exact hQ _ _ rfl u.ext
      | true =>
        rw [hres] at hQ
        simp (disch := omega) only [VW, VY, VZ, VA, VB, VC, VE, TY, ↓reduceIte, Nat.reduceEqDiff, Nat.reduceAdd, Nat.reduceMul, Nat.reduceSub, Nat.reduceLeDiff, List.length_cons, List.length_nil, List.length_append, List.append_assoc, List.take_succ_cons, List.take_zero, List.drop_succ_cons, List.drop_zero, List.set_cons_zero, List.set_cons_succ, true_or, or_true, and_self, Bool.false_eq_true, Nat.le_refl, Option.bind_some, Option.map_some, Option.getD_some, Option.isSome_some, List.map_cons, List.map_nil, List.cons_append, List.nil_append, List.append_nil, List.getElem?_cons_zero, List.getElem?_cons_succ, eq_self, Int.reduceLT, Int.reduceLE, Int.reduceNeg, Int.reduceEq, e6, e8, ga]
        refine sep_store (u.pull 3 rfl) (by simp) fun h9 u => ?_
        have u := u.as (ds := [.int .i64 (m : Int), ul, uh]) (by simp [t_put])
        have gz := u.rdAll (n := 3) rfl
        simp (disch := omega) only [VW, VY, VZ, VA, VB, VC, VE, TY, ↓reduceIte, Nat.reduceEqDiff, Nat.reduceAdd, Nat.reduceMul, Nat.reduceSub, Nat.reduceLeDiff, List.length_cons, List.length_nil, List.length_append, List.append_assoc, List.take_succ_cons, List.take_zero, List.drop_succ_cons, List.drop_zero, List.set_cons_zero, List.set_cons_succ, true_or, or_true, and_self, Bool.false_eq_true, Nat.le_refl, Option.bind_some, Option.map_some, Option.getD_some, Option.isSome_some, List.map_cons, List.map_nil, List.cons_append, List.nil_append, List.append_nil, List.getElem?_cons_zero, List.getElem?_cons_succ, eq_self, Int.reduceLT, Int.reduceLE, Int.reduceNeg, Int.reduceEq, gz, e6, p1, p2]
        exact hQ _ _ rfl u.ext
    | false =>
      obtain ⟨hev1, hev2⟩ := any_odd_pair (by omega) hodd
      have km : IntKind.i64.wrap ((m : Int) - 1) = (q : Int) := by rw [wrap_in _ (by omega)]; omega
      have hmm : mostM (m : Int) = 2 * mostM (q : Int) := by rw [hq]; exact mostM_step q
      simp (disch := omega) only [VW, VY, VZ, VA, VB, VC, VE, TY, ↓reduceIte, Nat.reduceEqDiff, Nat.reduceAdd, Nat.reduceMul, Nat.reduceSub, Nat.reduceLeDiff, List.length_cons, List.length_nil, List.length_append, List.append_assoc, List.take_succ_cons, List.take_zero, List.drop_succ_cons, List.drop_zero, List.set_cons_zero, List.set_cons_succ, true_or, or_true, and_self, Bool.false_eq_true, Nat.le_refl, Option.bind_some, Option.map_some, Option.getD_some, Option.isSome_some, List.map_cons, List.map_nil, List.cons_append, List.nil_append, List.append_nil, List.getElem?_cons_zero, List.getElem?_cons_succ, eq_self, Int.reduceLT, Int.reduceLE, Int.reduceNeg, Int.reduceEq, e8, gb, km]
      refine sep_store u (by simp) fun h5 u => ?_
      have u := u.as (ds := [.int .i64 (q : Int), ul, uh]) (by simp [t_put])
      have gb := u.rd
      have ilen := (u.pull 1 rfl).row.isRow.len Try.prog
      simp (disch := omega) only [VW, VY, VZ, VA, VB, VC, VE, TY, ↓reduceIte, Nat.reduceEqDiff, Nat.reduceAdd, Nat.reduceMul, Nat.reduceSub, Nat.reduceLeDiff, List.length_cons, List.length_nil, List.length_append, List.append_assoc, List.take_succ_cons, List.take_zero, List.drop_succ_cons, List.drop_zero, List.set_cons_zero, List.set_cons_succ, true_or, or_true, and_self, Bool.false_eq_true, Nat.le_refl, Option.bind_some, Option.map_some, Option.getD_some, Option.isSome_some, List.map_cons, List.map_nil, List.cons_append, List.nil_append, List.append_nil, List.getElem?_cons_zero, List.getElem?_cons_succ, eq_self, Int.reduceLT, Int.reduceLE, Int.reduceNeg, Int.reduceEq, e8, gb, c1, c2, ilen]
      refine loop_rule (fun n e h' => ∃ (i : Nat), e 6 = .pointer (some ⟨h.length, 0, none⟩) ∧ e 8 = .pointer (some ⟨hB.length, 0, none⟩) ∧ e 29 = .int .i64 (cl.length : Int) ∧ e 30 = .int .i64 (i : Int) ∧ i ≤ cl.length ∧ n = cl.length - i ∧
        Sep h h' [ownA 3 (hv i cl) ul, ownA 3 (hv i ch) uh, blkA hB.length [.int .i64 (q : Int), ul, uh] 42, blkA h.length [.int .i64 0, .slice none 0 0, .slice none 0 0] 42]) ?_ cl.length _ _
        ⟨0, e6, e8, rfl, rfl, Nat.zero_le _, rfl, by rw [hv_zero, hv_zero]; exact (u.pull 2 rfl).pull 2 rfl⟩
      rintro n e h8 ⟨i, e6, e8, e29, e30, hi, rfl, u⟩
      have gb := (u.pull 2 rfl).rd
      have ri := u.row
      have hln := hv_len i cl
      have hln2 := hv_len i ch
      have rix := ri.isRow.ix Try.prog
      rw [hln] at rix
      simp (disch := omega) only [VW, VY, VZ, VA, VB, VC, VE, TY, ↓reduceIte, Nat.reduceEqDiff, Nat.reduceAdd, Nat.reduceMul, Nat.reduceSub, Nat.reduceLeDiff, List.length_cons, List.length_nil, List.length_append, List.append_assoc, List.take_succ_cons, List.take_zero, List.drop_succ_cons, List.drop_zero, List.set_cons_zero, List.set_cons_succ, true_or, or_true, and_self, Bool.false_eq_true, Nat.le_refl, Option.bind_some, Option.map_some, Option.getD_some, Option.isSome_some, List.map_cons, List.map_nil, List.cons_append, List.nil_append, List.append_nil, List.getElem?_cons_zero, List.getElem?_cons_succ, eq_self, Int.reduceLT, Int.reduceLE, Int.reduceNeg, Int.reduceEq, e29, e30]
      by_cases hlt : i < cl.length
      · obtain ⟨x, hx⟩ := get_some hlt
        obtain ⟨y, hy⟩ := get_some (show i < ch.length by omega)
        have qi : (i : Int) < (cl.length : Int) := by omega
        obtain ⟨x1, x2⟩ := row_int ri (hv_get hx)
        have hxb := ib1 x (List.mem_of_getElem? hx)
        have hyb := ib2 y (List.mem_of_getElem? hy)
        have hmo := mostM_le (k := (m : Int)) ⟨by omega, by omega⟩
        have htb := tdiv_small (x := x) ⟨by omega, by omega⟩
        have htc := tdiv_small (x := y) ⟨by omega, by omega⟩
        have z2 : ¬ (2 : Int) = 0 := by decide
        have wq : IntKind.i64.wrap (Int.tdiv x 2) = Int.tdiv x 2 := wrap_in _ (by omega)
        have wr : IntKind.i64.wrap (Int.tdiv y 2) = Int.tdiv y 2 := wrap_in _ (by omega)
        have sp := u.rep0 (x := Int.tdiv x 2) (rep_int ⟨by omega, by omega⟩)
        simp (disch := omega) only [VW, VY, VZ, VA, VB, VC, VE, TY, ↓reduceIte, Nat.reduceEqDiff, Nat.reduceAdd, Nat.reduceMul, Nat.reduceSub, Nat.reduceLeDiff, List.length_cons, List.length_nil, List.length_append, List.append_assoc, List.take_succ_cons, List.take_zero, List.drop_succ_cons, List.drop_zero, List.set_cons_zero, List.set_cons_succ, true_or, or_true, and_self, Bool.false_eq_true, Nat.le_refl, Option.bind_some, Option.map_some, Option.getD_some, Option.isSome_some, List.map_cons, List.map_nil, List.cons_append, List.nil_append, List.append_nil, List.getElem?_cons_zero, List.getElem?_cons_succ, eq_self, Int.reduceLT, Int.reduceLE, Int.reduceNeg, Int.reduceEq, e8, e30, qi, gb, rix, x1, z2, wq]
        refine sep_set1 (i := i) (y := Int.tdiv x 2) (Sep.swap sp) rfl (by omega) fun h9 u => ?_
        rw [hv_set hx] at u
        have gb := (u.pull 2 rfl).rd
        have rj := (u.pull 1 rfl).row
        have rjx := rj.isRow.ix Try.prog
        rw [hln2, show ch.length = cl.length by omega] at rjx
        obtain ⟨y1, y2⟩ := row_int rj (hv_get hy)
        have sp := (u.pull 1 rfl).rep0 (x := Int.tdiv y 2) (rep_int ⟨by omega, by omega⟩)
        simp (disch := omega) only [VW, VY, VZ, VA, VB, VC, VE, TY, ↓reduceIte, Nat.reduceEqDiff, Nat.reduceAdd, Nat.reduceMul, Nat.reduceSub, Nat.reduceLeDiff, List.length_cons, List.length_nil, List.length_append, List.append_assoc, List.take_succ_cons, List.take_zero, List.drop_succ_cons, List.drop_zero, List.set_cons_zero, List.set_cons_succ, true_or, or_true, and_self, Bool.false_eq_true, Nat.le_refl, Option.bind_some, Option.map_some, Option.getD_some, Option.isSome_some, List.map_cons, List.map_nil, List.cons_append, List.nil_append, List.append_nil, List.getElem?_cons_zero, List.getElem?_cons_succ, eq_self, Int.reduceLT, Int.reduceLE, Int.reduceNeg, Int.reduceEq, e8, e30, qi, gb, rjx, y1, z2, wr]
        refine sep_set1 (i := i) (y := Int.tdiv y 2) (Sep.swap sp) rfl (by omega) fun h9 u => ?_
        rw [hv_set hy] at u
        simp (disch := omega) only [VW, VY, VZ, VA, VB, VC, VE, TY, ↓reduceIte, Nat.reduceEqDiff, Nat.reduceAdd, Nat.reduceMul, Nat.reduceSub, Nat.reduceLeDiff, List.length_cons, List.length_nil, List.length_append, List.append_assoc, List.take_succ_cons, List.take_zero, List.drop_succ_cons, List.drop_zero, List.set_cons_zero, List.set_cons_succ, true_or, or_true, and_self, Bool.false_eq_true, Nat.le_refl, Option.bind_some, Option.map_some, Option.getD_some, Option.isSome_some, List.map_cons, List.map_nil, List.cons_append, List.nil_append, List.append_nil, List.getElem?_cons_zero, List.getElem?_cons_succ, eq_self, Int.reduceLT, Int.reduceLE, Int.reduceNeg, Int.reduceEq, e6, e8, e29, e30, wrap_in]
        exact ⟨_, by omega, i + 1, by simp, by omega, rfl, u.swap⟩
      · obtain rfl : i = cl.length := by omega
        have qi : ¬ (cl.length : Int) < (cl.length : Int) := by omega
        rw [hv_full, show cl.length = ch.length by omega, hv_full] at u
        simp (disch := omega) only [VW, VY, VZ, VA, VB, VC, VE, TY, ↓reduceIte, Nat.reduceEqDiff, Nat.reduceAdd, Nat.reduceMul, Nat.reduceSub, Nat.reduceLeDiff, List.length_cons, List.length_nil, List.length_append, List.append_assoc, List.take_succ_cons, List.take_zero, List.drop_succ_cons, List.drop_zero, List.set_cons_zero, List.set_cons_succ, true_or, or_true, and_self, Bool.false_eq_true, Nat.le_refl, Option.bind_some, Option.map_some, Option.getD_some, Option.isSome_some, List.map_cons, List.map_nil, List.cons_append, List.nil_append, List.append_nil, List.getElem?_cons_zero, List.getElem?_cons_succ, eq_self, Int.reduceLT, Int.reduceLE, Int.reduceNeg, Int.reduceEq, qi, e6, e8]
        exact ⟨q, by omega, q, hfL cl, hfL ch, by omega, rfl, by rw [hfL_len]; exact hcl, by rw [hfL_len]; exact hch, half_small (fun n hn => by have := ib1 n hn; omega) hev1, half_small (fun n hn => by have := ib2 n hn; omega) hev2, by rw [← hT]; exact half_lt hodd, u.pull 2 rfl⟩
end Go.Proofs

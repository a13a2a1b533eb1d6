/- Contracts of functions, facts of types, or the plain law behind one statement (own work): Q10. Conditions: those told in each theorem. -/
import Derived.Test.YtiiolloielppeaaGreatDoorQ9
set_option linter.all false
set_option linter.unusedSimpArgs false
set_option linter.unusedVariables false
set_option maxRecDepth 4000
set_option linter.unusedSectionVars false
namespace Go.Proofs
open Go Go.V
theorem app_four {h : Heap} {a b c d : Option Blk} : h ++ [a, b, c, d] = (h ++ [a, b, c]) ++ [d] := by simp
theorem cpPut_c {a h : Heap} {L : List Asr} {w : Wk} {v0 v1 v2 v3 : Value} {nm : List UInt8} {b : Bx} {cs : List Value} {Q : Value → Heap → Prop} (hB : WB w 1000)
    (s : Sep a h (ownA 38 w.opened v0 :: ownA 38 w.free v1 :: ownA 38 w.holds v2 :: ownA 38 w.kept v3 :: repA b cs :: L))
    (h0 : idxN nm = none → ∀ h', Ext h h' → Q (.tuple #[.agg #[.slice none 0 0, .slice none 0 0, .slice none 0 0, .slice none 0 0, .int .i64 0], .bool false]) h')
    (h1 : ∀ k, idxN nm = some k → ∀ x0 x1 x2 x3 h', Sep a h' (ownA 38 (putW w k b).opened x0 :: ownA 38 (putW w k b).free x1 :: ownA 38 (putW w k b).holds x2 :: ownA 38 (putW w k b).kept x3 :: L) → Q (.tuple #[.agg #[x0, x1, x2, x3, .int .i64 w.steps], .bool true]) h') :
    CallsV Tryz.prog 27 [.agg #[v0, v1, v2, v3, .int .i64 w.steps], .string (bL nm), .agg cs.toArray] h Q := by
  obtain ⟨b0, b1, b2, b3⟩ := hB
  obtain ⟨w1, w2, rfl, f1, r1, r2⟩ := here_Bx (s.pull 4 rfl).here
  have pl0 := s.row.isRow.cells
  have pl1 := (s.pull 1 rfl).row.isRow.cells
  have pl2 := (s.pull 2 rfl).row.isRow.cells
  have pl3 := (s.pull 3 rfl).row.isRow.cells
  have pw1 := r1.isRow.cells
  have pw2 := r2.isRow.cells
  refine CallsV.start Tryz.func27 rfl (by rw [Tryz.results27]) (by kernel_rfl) (by rw [Tryz.ntmps27]; simp) ?_
  have u := ((s.newBlk [v0, v1, v2, v3, .int .i64 w.steps] 24 true).newBlk [.int .i64 b.k, w1, w2] 38 true).newBlk [.slice none 0 0, .slice none 0 0, .slice none 0 0, .slice none 0 0, .int .i64 0] 24 true
  simp only [List.append_assoc, List.cons_append, List.nil_append, List.length_append, List.length_cons, List.length_nil, Nat.reduceAdd] at u
  have gb := (u.pull 1 rfl).rdAll (n := 3) rfl
  have gw := (u.pull 2 rfl).rd
  have E3 := Ext.app h [some (⟨[v0, v1, v2, v3, .int .i64 w.steps], 24, false, true⟩ : Blk), some ⟨[.int .i64 b.k, w1, w2], 38, false, true⟩, some ⟨[.slice none 0 0, .slice none 0 0, .slice none 0 0, .slice none 0 0, .int .i64 0], 24, false, true⟩]
  have n0 : (bL nm = ⟨#[111, 112, 101, 110]⟩) ↔ nm = [111, 112, 101, 110] := bL_eq
  have n1 : (bL nm = ⟨#[102, 114, 101, 101]⟩) ↔ nm = [102, 114, 101, 101] := bL_eq
  have n2 : (bL nm = ⟨#[104, 111, 108, 100, 115]⟩) ↔ nm = [104, 111, 108, 100, 115] := bL_eq
  have n3 : (bL nm = ⟨#[107, 101, 112, 116]⟩) ↔ nm = [107, 101, 112, 116] := bL_eq
  by_cases k0 : bL nm = ⟨#[111, 112, 101, 110]⟩
  · have hk : idxN nm = some 0 := by
      unfold idxN
      rw [if_pos (n0.1 k0)]
    simp (disch := omega) only [VW, VY, VZ, VA, VB, VC, VE, TY, ↓reduceIte, Nat.reduceEqDiff, Nat.reduceAdd, Nat.reduceMul, Nat.reduceSub, Nat.reduceLeDiff, List.length_cons, List.length_nil, List.length_append, List.append_assoc, List.take_succ_cons, List.take_zero, List.drop_succ_cons, List.drop_zero, List.set_cons_zero, List.set_cons_succ, true_or, or_true, and_self, Bool.false_eq_true, Nat.le_refl, Option.bind_some, Option.map_some, Option.getD_some, Option.isSome_some, List.map_cons, List.map_nil, List.cons_append, List.nil_append, List.append_nil, List.getElem?_cons_zero, List.getElem?_cons_succ, eq_self, Int.reduceLT, Int.reduceLE, Int.reduceNeg, Int.reduceEq, k0, gw, gb]
    have sq := ((u.pull 3 rfl).pull 7 rfl).swap
    refine sep_append (y := b) sq app_four (by simp) te22 tk38 rfl (by decide) (by simp only []; omega) fun vn h5 u => ?_
    have hc := u.row.isRow.cells
    simp (disch := omega) only [VW, VY, VZ, VA, VB, VC, VE, TY, ↓reduceIte, Nat.reduceEqDiff, Nat.reduceAdd, Nat.reduceMul, Nat.reduceSub, Nat.reduceLeDiff, List.length_cons, List.length_nil, List.length_append, List.append_assoc, List.take_succ_cons, List.take_zero, List.drop_succ_cons, List.drop_zero, List.set_cons_zero, List.set_cons_succ, true_or, or_true, and_self, Bool.false_eq_true, Nat.le_refl, Option.bind_some, Option.map_some, Option.getD_some, Option.isSome_some, List.map_cons, List.map_nil, List.cons_append, List.nil_append, List.append_nil, List.getElem?_cons_zero, List.getElem?_cons_succ, eq_self, Int.reduceLT, Int.reduceLE, Int.reduceNeg, Int.reduceEq, hc]
    refine sep_store (u.pull 3 rfl) (by simp) fun h6 u => ?_
    have u := u.as (ds := [vn, v1, v2, v3, .int .i64 w.steps]) (by simp [t_put])
    have ga := u.rdAll (n := 5) rfl
    simp (disch := omega) only [VW, VY, VZ, VA, VB, VC, VE, TY, ↓reduceIte, Nat.reduceEqDiff, Nat.reduceAdd, Nat.reduceMul, Nat.reduceSub, Nat.reduceLeDiff, List.length_cons, List.length_nil, List.length_append, List.append_assoc, List.take_succ_cons, List.take_zero, List.drop_succ_cons, List.drop_zero, List.set_cons_zero, List.set_cons_succ, true_or, or_true, and_self, Bool.false_eq_true, Nat.le_refl, Option.bind_some, Option.map_some, Option.getD_some, Option.isSome_some, List.map_cons, List.map_nil, List.cons_append, List.nil_append, List.append_nil, List.getElem?_cons_zero, List.getElem?_cons_succ, eq_self, Int.reduceLT, Int.reduceLE, Int.reduceNeg, Int.reduceEq, ga]
    refine sep_store (u.pull 2 rfl) (by simp) fun h7 u => ?_
    have u := u.as (ds := [vn, v1, v2, v3, .int .i64 w.steps]) (by simp [t_put])
    have ga := u.rdAll (n := 5) rfl
    simp (disch := omega) only [VW, VY, VZ, VA, VB, VC, VE, TY, ↓reduceIte, Nat.reduceEqDiff, Nat.reduceAdd, Nat.reduceMul, Nat.reduceSub, Nat.reduceLeDiff, List.length_cons, List.length_nil, List.length_append, List.append_assoc, List.take_succ_cons, List.take_zero, List.drop_succ_cons, List.drop_zero, List.set_cons_zero, List.set_cons_succ, true_or, or_true, and_self, Bool.false_eq_true, Nat.le_refl, Option.bind_some, Option.map_some, Option.getD_some, Option.isSome_some, List.map_cons, List.map_nil, List.cons_append, List.nil_append, List.append_nil, List.getElem?_cons_zero, List.getElem?_cons_succ, eq_self, Int.reduceLT, Int.reduceLE, Int.reduceNeg, Int.reduceEq, ga]
    have u := u.tail.tail.swap.tail
    exact h1 0 hk _ _ _ _ _ u
  by_cases k1 : bL nm = ⟨#[102, 114, 101, 101]⟩
  · have hk : idxN nm = some 1 := by
      unfold idxN
      rw [if_neg (fun c => k0 (n0.2 c)), if_pos (n1.1 k1)]
    have d0 : ¬ ((⟨#[102, 114, 101, 101]⟩ : ByteArray) = ⟨#[111, 112, 101, 110]⟩) := fun c => k0 (k1.trans c)
    simp (disch := omega) only [VW, VY, VZ, VA, VB, VC, VE, TY, ↓reduceIte, Nat.reduceEqDiff, Nat.reduceAdd, Nat.reduceMul, Nat.reduceSub, Nat.reduceLeDiff, List.length_cons, List.length_nil, List.length_append, List.append_assoc, List.take_succ_cons, List.take_zero, List.drop_succ_cons, List.drop_zero, List.set_cons_zero, List.set_cons_succ, true_or, or_true, and_self, Bool.false_eq_true, Nat.le_refl, Option.bind_some, Option.map_some, Option.getD_some, Option.isSome_some, List.map_cons, List.map_nil, List.cons_append, List.nil_append, List.append_nil, List.getElem?_cons_zero, List.getElem?_cons_succ, eq_self, Int.reduceLT, Int.reduceLE, Int.reduceNeg, Int.reduceEq, d0, k1, gw, gb]
    have sq := ((u.pull 4 rfl).pull 7 rfl).swap
    refine sep_append (y := b) sq app_four (by simp) te22 tk38 rfl (by decide) (by simp only []; omega) fun vn h5 u => ?_
    have hc := u.row.isRow.cells
    simp (disch := omega) only [VW, VY, VZ, VA, VB, VC, VE, TY, ↓reduceIte, Nat.reduceEqDiff, Nat.reduceAdd, Nat.reduceMul, Nat.reduceSub, Nat.reduceLeDiff, List.length_cons, List.length_nil, List.length_append, List.append_assoc, List.take_succ_cons, List.take_zero, List.drop_succ_cons, List.drop_zero, List.set_cons_zero, List.set_cons_succ, true_or, or_true, and_self, Bool.false_eq_true, Nat.le_refl, Option.bind_some, Option.map_some, Option.getD_some, Option.isSome_some, List.map_cons, List.map_nil, List.cons_append, List.nil_append, List.append_nil, List.getElem?_cons_zero, List.getElem?_cons_succ, eq_self, Int.reduceLT, Int.reduceLE, Int.reduceNeg, Int.reduceEq, hc]
    refine sep_store (u.pull 3 rfl) (by simp) fun h6 u => ?_
    have u := u.as (ds := [v0, vn, v2, v3, .int .i64 w.steps]) (by simp [t_put])
    have ga := u.rdAll (n := 5) rfl
    simp (disch := omega) only [VW, VY, VZ, VA, VB, VC, VE, TY, ↓reduceIte, Nat.reduceEqDiff, Nat.reduceAdd, Nat.reduceMul, Nat.reduceSub, Nat.reduceLeDiff, List.length_cons, List.length_nil, List.length_append, List.append_assoc, List.take_succ_cons, List.take_zero, List.drop_succ_cons, List.drop_zero, List.set_cons_zero, List.set_cons_succ, true_or, or_true, and_self, Bool.false_eq_true, Nat.le_refl, Option.bind_some, Option.map_some, Option.getD_some, Option.isSome_some, List.map_cons, List.map_nil, List.cons_append, List.nil_append, List.append_nil, List.getElem?_cons_zero, List.getElem?_cons_succ, eq_self, Int.reduceLT, Int.reduceLE, Int.reduceNeg, Int.reduceEq, ga]
    refine sep_store (u.pull 2 rfl) (by simp) fun h7 u => ?_
    have u := u.as (ds := [v0, vn, v2, v3, .int .i64 w.steps]) (by simp [t_put])
    have ga := u.rdAll (n := 5) rfl
    simp (disch := omega) only [VW, VY, VZ, VA, VB, VC, VE, TY, ↓reduceIte, Nat.reduceEqDiff, Nat.reduceAdd, Nat.reduceMul, Nat.reduceSub, Nat.reduceLeDiff, List.length_cons, List.length_nil, List.length_append, List.append_assoc, List.take_succ_cons, List.take_zero, List.drop_succ_cons, List.drop_zero, List.set_cons_zero, List.set_cons_succ, true_or, or_true, and_self, Bool.false_eq_true, Nat.le_refl, Option.bind_some, Option.map_some, Option.getD_some, Option.isSome_some, List.map_cons, List.map_nil, List.cons_append, List.nil_append, List.append_nil, List.getElem?_cons_zero, List.getElem?_cons_succ, eq_self, Int.reduceLT, Int.reduceLE, Int.reduceNeg, Int.reduceEq, ga]
    have u := u.tail.tail.swap.tail
    exact h1 1 hk _ _ _ _ _ u.swap
  by_cases k2 : bL nm = ⟨#[104, 111, 108, 100, 115]⟩
  · have hk : idxN nm = some 2 := by
      unfold idxN
      rw [if_neg (fun c => k0 (n0.2 c)), if_neg (fun c => k1 (n1.2 c)), if_pos (n2.1 k2)]
    have d0 : ¬ ((⟨#[104, 111, 108, 100, 115]⟩ : ByteArray) = ⟨#[111, 112, 101, 110]⟩) := fun c => k0 (k2.trans c)
    have d1 : ¬ ((⟨#[104, 111, 108, 100, 115]⟩ : ByteArray) = ⟨#[102, 114, 101, 101]⟩) := fun c => k1 (k2.trans c)
    simp (disch := omega) only [VW, VY, VZ, VA, VB, VC, VE, TY, ↓reduceIte, Nat.reduceEqDiff, Nat.reduceAdd, Nat.reduceMul, Nat.reduceSub, Nat.reduceLeDiff, List.length_cons, List.length_nil, List.length_append, List.append_assoc, List.take_succ_cons, List.take_zero, List.drop_succ_cons, List.drop_zero, List.set_cons_zero, List.set_cons_succ, true_or, or_true, and_self, Bool.false_eq_true, Nat.le_refl, Option.bind_some, Option.map_some, Option.getD_some, Option.isSome_some, List.map_cons, List.map_nil, List.cons_append, List.nil_append, List.append_nil, List.getElem?_cons_zero, List.getElem?_cons_succ, eq_self, Int.reduceLT, Int.reduceLE, Int.reduceNeg, Int.reduceEq, d0, d1, k2, gw, gb]
    have sq := ((u.pull 5 rfl).pull 7 rfl).swap
    refine sep_append (y := b) sq app_four (by simp) te22 tk38 rfl (by decide) (by simp only []; omega) fun vn h5 u => ?_
    have hc := u.row.isRow.cells
    simp (disch := omega) only [VW, VY, VZ, VA, VB, VC, VE, TY, ↓reduceIte, Nat.reduceEqDiff, Nat.reduceAdd, Nat.reduceMul, Nat.reduceSub, Nat.reduceLeDiff, List.length_cons, List.length_nil, List.length_append, List.append_assoc, List.take_succ_cons, List.take_zero, List.drop_succ_cons, List.drop_zero, List.set_cons_zero, List.set_cons_succ, true_or, or_true, and_self, Bool.false_eq_true, Nat.le_refl, Option.bind_some, Option.map_some, Option.getD_some, Option.isSome_some, List.map_cons, List.map_nil, List.cons_append, List.nil_append, List.append_nil, List.getElem?_cons_zero, List.getElem?_cons_succ, eq_self, Int.reduceLT, Int.reduceLE, Int.reduceNeg, Int.reduceEq, hc]
    refine sep_store (u.pull 3 rfl) (by simp) fun h6 u => ?_
    have u := u.as (ds := [v0, v1, vn, v3, .int .i64 w.steps]) (by simp [t_put])
    have ga := u.rdAll (n := 5) rfl
    simp (disch := omega) only [VW, VY, VZ, VA, VB, VC, VE, TY, ↓reduceIte, Nat.reduceEqDiff, Nat.reduceAdd, Nat.reduceMul, Nat.reduceSub, Nat.reduceLeDiff, List.length_cons, List.length_nil, List.length_append, List.append_assoc, List.take_succ_cons, List.take_zero, List.drop_succ_cons, List.drop_zero, List.set_cons_zero, List.set_cons_succ, true_or, or_true, and_self, Bool.false_eq_true, Nat.le_refl, Option.bind_some, Option.map_some, Option.getD_some, Option.isSome_some, List.map_cons, List.map_nil, List.cons_append, List.nil_append, List.append_nil, List.getElem?_cons_zero, List.getElem?_cons_succ, eq_self, Int.reduceLT, Int.reduceLE, Int.reduceNeg, Int.reduceEq, ga]
    refine sep_store (u.pull 2 rfl) (by simp) fun h7 u => ?_
    have u := u.as (ds := [v0, v1, vn, v3, .int .i64 w.steps]) (by simp [t_put])
    have ga := u.rdAll (n := 5) rfl
    simp (disch := omega) only [VW, VY, VZ, VA, VB, VC, VE, TY, ↓reduceIte, Nat.reduceEqDiff, Nat.reduceAdd, Nat.reduceMul, Nat.reduceSub, Nat.reduceLeDiff, List.length_cons, List.length_nil, List.length_append, List.append_assoc, List.take_succ_cons, List.take_zero, List.drop_succ_cons, List.drop_zero, List.set_cons_zero, List.set_cons_succ, true_or, or_true, and_self, Bool.false_eq_true, Nat.le_refl, Option.bind_some, Option.map_some, Option.getD_some, Option.isSome_some, List.map_cons, List.map_nil, List.cons_append, List.nil_append, List.append_nil, List.getElem?_cons_zero, List.getElem?_cons_succ, eq_self, Int.reduceLT, Int.reduceLE, Int.reduceNeg, Int.reduceEq, ga]
    have u := u.tail.tail.swap.tail
    exact h1 2 hk _ _ _ _ _ ((u.pull 2 rfl).pull 2 rfl)
  by_cases k3 : bL nm = ⟨#[107, 101, 112, 116]⟩
  · have hk : idxN nm = some 3 := by
      unfold idxN
      rw [if_neg (fun c => k0 (n0.2 c)), if_neg (fun c => k1 (n1.2 c)), if_neg (fun c => k2 (n2.2 c)), if_pos (n3.1 k3)]
    have d0 : ¬ ((⟨#[107, 101, 112, 116]⟩ : ByteArray) = ⟨#[111, 112, 101, 110]⟩) := fun c => k0 (k3.trans c)
    have d1 : ¬ ((⟨#[107, 101, 112, 116]⟩ : ByteArray) = ⟨#[102, 114, 101, 101]⟩) := fun c => k1 (k3.trans c)
    have d2 : ¬ ((⟨#[107, 101, 112, 116]⟩ : ByteArray) = ⟨#[104, 111, 108, 100, 115]⟩) := fun c => k2 (k3.trans c)
    simp (disch := omega) only [VW, VY, VZ, VA, VB, VC, VE, TY, ↓reduceIte, Nat.reduceEqDiff, Nat.reduceAdd, Nat.reduceMul, Nat.reduceSub, Nat.reduceLeDiff, List.length_cons, List.length_nil, List.length_append, List.append_assoc, List.take_succ_cons, List.take_zero, List.drop_succ_cons, List.drop_zero, List.set_cons_zero, List.set_cons_succ, true_or, or_true, and_self, Bool.false_eq_true, Nat.le_refl, Option.bind_some, Option.map_some, Option.getD_some, Option.isSome_some, List.map_cons, List.map_nil, List.cons_append, List.nil_append, List.append_nil, List.getElem?_cons_zero, List.getElem?_cons_succ, eq_self, Int.reduceLT, Int.reduceLE, Int.reduceNeg, Int.reduceEq, d0, d1, d2, k3, gw, gb]
    have sq := ((u.pull 6 rfl).pull 7 rfl).swap
    refine sep_append (y := b) sq app_four (by simp) te22 tk38 rfl (by decide) (by simp only []; omega) fun vn h5 u => ?_
    have hc := u.row.isRow.cells
    simp (disch := omega) only [VW, VY, VZ, VA, VB, VC, VE, TY, ↓reduceIte, Nat.reduceEqDiff, Nat.reduceAdd, Nat.reduceMul, Nat.reduceSub, Nat.reduceLeDiff, List.length_cons, List.length_nil, List.length_append, List.append_assoc, List.take_succ_cons, List.take_zero, List.drop_succ_cons, List.drop_zero, List.set_cons_zero, List.set_cons_succ, true_or, or_true, and_self, Bool.false_eq_true, Nat.le_refl, Option.bind_some, Option.map_some, Option.getD_some, Option.isSome_some, List.map_cons, List.map_nil, List.cons_append, List.nil_append, List.append_nil, List.getElem?_cons_zero, List.getElem?_cons_succ, eq_self, Int.reduceLT, Int.reduceLE, Int.reduceNeg, Int.reduceEq, hc]
    refine sep_store (u.pull 3 rfl) (by simp) fun h6 u => ?_
    have u := u.as (ds := [v0, v1, v2, vn, .int .i64 w.steps]) (by simp [t_put])
    have ga := u.rdAll (n := 5) rfl
    simp (disch := omega) only [VW, VY, VZ, VA, VB, VC, VE, TY, ↓reduceIte, Nat.reduceEqDiff, Nat.reduceAdd, Nat.reduceMul, Nat.reduceSub, Nat.reduceLeDiff, List.length_cons, List.length_nil, List.length_append, List.append_assoc, List.take_succ_cons, List.take_zero, List.drop_succ_cons, List.drop_zero, List.set_cons_zero, List.set_cons_succ, true_or, or_true, and_self, Bool.false_eq_true, Nat.le_refl, Option.bind_some, Option.map_some, Option.getD_some, Option.isSome_some, List.map_cons, List.map_nil, List.cons_append, List.nil_append, List.append_nil, List.getElem?_cons_zero, List.getElem?_cons_succ, eq_self, Int.reduceLT, Int.reduceLE, Int.reduceNeg, Int.reduceEq, ga]
    refine sep_store (u.pull 2 rfl) (by simp) fun h7 u => ?_
    have u := u.as (ds := [v0, v1, v2, vn, .int .i64 w.steps]) (by simp [t_put])
    have ga := u.rdAll (n := 5) rfl
    simp (disch := omega) only [VW, VY, VZ, VA, VB, VC, VE, TY, ↓reduceIte, Nat.reduceEqDiff, Nat.reduceAdd, Nat.reduceMul, Nat.reduceSub, Nat.reduceLeDiff, List.length_cons, List.length_nil, List.length_append, List.append_assoc, List.take_succ_cons, List.take_zero, List.drop_succ_cons, List.drop_zero, List.set_cons_zero, List.set_cons_succ, true_or, or_true, and_self, Bool.false_eq_true, Nat.le_refl, Option.bind_some, Option.map_some, Option.getD_some, Option.isSome_some, List.map_cons, List.map_nil, List.cons_append, List.nil_append, List.append_nil, List.getElem?_cons_zero, List.getElem?_cons_succ, eq_self, Int.reduceLT, Int.reduceLE, Int.reduceNeg, Int.reduceEq, ga]
    have u := u.tail.tail.swap.tail
    exact h1 3 hk _ _ _ _ _ (((u.pull 3 rfl).pull 3 rfl).pull 3 rfl)
  have hk : idxN nm = none := by
    unfold idxN
    rw [if_neg (fun c => k0 (n0.2 c)), if_neg (fun c => k1 (n1.2 c)), if_neg (fun c => k2 (n2.2 c)), if_neg (fun c => k3 (n3.2 c))]
  simp (disch := omega) only [VW, VY, VZ, VA, VB, VC, VE, TY, ↓reduceIte, Nat.reduceEqDiff, Nat.reduceAdd, Nat.reduceMul, Nat.reduceSub, Nat.reduceLeDiff, List.length_cons, List.length_nil, List.length_append, List.append_assoc, List.take_succ_cons, List.take_zero, List.drop_succ_cons, List.drop_zero, List.set_cons_zero, List.set_cons_succ, true_or, or_true, and_self, Bool.false_eq_true, Nat.le_refl, Option.bind_some, Option.map_some, Option.getD_some, Option.isSome_some, List.map_cons, List.map_nil, List.cons_append, List.nil_append, List.append_nil, List.getElem?_cons_zero, List.getElem?_cons_succ, eq_self, Int.reduceLT, Int.reduceLE, Int.reduceNeg, Int.reduceEq, k0, k1, k2, k3]
  exact h0 hk _ E3
end Go.Proofs

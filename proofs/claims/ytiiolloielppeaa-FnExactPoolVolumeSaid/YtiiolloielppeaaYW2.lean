/- Contracts of functions, facts of types, or the plain law behind one statement (own work): YW2. Conditions: those told in each theorem. -/
import Derived.Test.YtiiolloielppeaaYW1
set_option linter.all false
set_option linter.unusedSimpArgs false
set_option linter.unusedVariables false
set_option maxRecDepth 4000
namespace Go.Proofs
open Go Go.V
theorem total_c {a h : Heap} {b : Nat} {L : List Asr} {x : Dy} {l : List Dy} {v : Value} {Q : Value → Heap → Prop} (s : Sep a h (blkA b [.bool true] 93 :: ownA 39 (x :: l) v :: L)) (hg : ∀ d ∈ x :: l, DyG d) (hl : l.length ≤ 1000)
    (hQ : ∀ h', Sep a h' (blkA b [.bool (addL (some x) l).isSome] 93 :: ownA 39 (x :: l) v :: L) → Q (.agg (dyC ((addL (some x) l).getD ⟨0, 0⟩)).toArray) h') :
    CallsV Try.prog 66 [.pointer (some ⟨b, 0, none⟩), v] h Q := by
  refine CallsV.start Try.func66 rfl (by rw [Try.results66]) (by kernel_rfl) (by rw [Try.ntmps66]; simp) ?_
  have rw0 := (s.pull 1 rfl).row
  have s := s.newBlk [.int .i64 0, .int .i64 0] 39 true
  have s := s.newBlk (dyC x) 39 true
  have e1 : (h ++ [some (⟨[.int .i64 0, .int .i64 0], 39, false, true⟩ : Blk)]) ++ [some ⟨dyC x, 39, false, true⟩] = h ++ [some ⟨[.int .i64 0, .int .i64 0], 39, false, true⟩, some ⟨dyC x, 39, false, true⟩] := by simp
  have e2 : (h ++ [some (⟨[.int .i64 0, .int .i64 0], 39, false, true⟩ : Blk)]).length = h.length + 1 := by simp
  rw [e1, e2] at s
  have rwz := rw0.mono (Ext.one h (some ⟨[.int .i64 0, .int .i64 0], 39, false, true⟩))
  have rw1 := (s.pull 3 rfl).row
  have cz := row_Dy' rwz (show (x :: l)[0]? = some x from rfl)
  rw [Nat.zero_mul, Nat.add_zero] at cz
  have hcut := rw1.cut (lo := 1) (m := (x :: l).length) (by simp) (Nat.le_refl _)
  rw [List.take_length] at hcut
  have hcut : Row _ l (cutV v 2 1 (l.length + 1)) := hcut
  have cap := rw1.isRow.cap
  have hl1 : (x :: l).length = l.length + 1 := rfl
  have q0 : (0 : Int) < (((x :: l).length : Nat) : Int) := by omega
  have k1 : (0 : Int) ≤ 1 := by decide
  have k2 : (1 : Int) ≤ (((x :: l).length : Nat) : Int) := by omega
  have k3 : (1 : Int).toNat = 1 := rfl
  have ix0 := rw1.isRow.ix Try.prog
  simp (disch := omega) only [VW, VY, VZ, VA, VB, VC, VE, TY, ↓reduceIte, Nat.reduceEqDiff, Nat.reduceAdd, Nat.reduceMul, Nat.reduceSub, Nat.reduceLeDiff, List.length_cons, List.length_nil, List.length_append, List.append_assoc, List.take_succ_cons, List.take_zero, List.drop_succ_cons, List.drop_zero, List.set_cons_zero, List.set_cons_succ, true_or, or_true, and_self, Bool.false_eq_true, Nat.le_refl, Option.bind_some, Option.map_some, Option.getD_some, Option.isSome_some, List.map_cons, List.map_nil, List.cons_append, List.nil_append, List.append_nil, List.getElem?_cons_zero, List.getElem?_cons_succ, eq_self, Int.reduceLT, Int.reduceLE, Int.reduceNeg, Int.reduceEq, rwz.isRow.ix, rw1.isRow.ix, q0, cz, rw1.isRow.sl, k1, k2, k3, hcut.isRow.len]
  have hvv := rw1.isRow
  have hg0 : GoodO (some x) := by intro d hd; cases hd; exact hg _ (by simp)
  refine loop_rule (fun n e h' => ∃ (i : Nat), e 0 = .pointer (some ⟨b, 0, none⟩) ∧ e 4 = .pointer (some ⟨h.length, 0, none⟩) ∧ e 5 = .pointer (some ⟨h.length + 1, 0, none⟩) ∧ e 12 = cutV v 2 1 (l.length + 1) ∧ e 13 = .int .i64 l.length ∧ e 14 = .int .i64 i ∧ i ≤ l.length ∧ n = l.length - i ∧
    Sep a h' (blkA b [.bool (addL (some x) (l.take i)).isSome] 93 :: blkA (h.length + 1) (dyC ((addL (some x) (l.take i)).getD ⟨0, 0⟩)) 39 :: ownA 39 (x :: l) v :: blkA h.length [.int .i64 0, .int .i64 0] 39 :: L)) ?_ l.length _ _
    ⟨0, rfl, rfl, rfl, rfl, rfl, rfl, by omega, rfl, ((s.pull 3 rfl).pull 1 rfl).pull 3 rfl⟩
  rintro n e h' ⟨i, e0, e4, e5, e12, e13, e14, hi, rfl, u⟩
  have hcut := (u.pull 2 rfl).row.cut (lo := 1) (m := (x :: l).length) (by simp) (Nat.le_refl _)
  rw [List.take_length] at hcut
  have hcut : Row _ l (cutV v 2 1 (l.length + 1)) := hcut
  simp (disch := omega) only [VW, VY, VZ, VA, VB, VC, VE, TY, ↓reduceIte, Nat.reduceEqDiff, Nat.reduceAdd, Nat.reduceMul, Nat.reduceSub, Nat.reduceLeDiff, List.length_cons, List.length_nil, List.length_append, List.append_assoc, List.take_succ_cons, List.take_zero, List.drop_succ_cons, List.drop_zero, List.set_cons_zero, List.set_cons_succ, true_or, or_true, and_self, Bool.false_eq_true, Nat.le_refl, Option.bind_some, Option.map_some, Option.getD_some, Option.isSome_some, List.map_cons, List.map_nil, List.cons_append, List.nil_append, List.append_nil, List.getElem?_cons_zero, List.getElem?_cons_succ, eq_self, Int.reduceLT, Int.reduceLE, Int.reduceNeg, Int.reduceEq, e13, e14]
  by_cases hlt : i < l.length
  · obtain ⟨z, hz⟩ := get_some hlt
    have q1 : (i : Int) < (l.length : Int) := by omega
    have hzg := hg z (by simp; exact .inr (List.mem_of_getElem? hz))
    have hdg := addL_good hg0 l i
    have cz := row_Dy' hcut hz
    simp (disch := omega) only [VW, VY, VZ, VA, VB, VC, VE, TY, ↓reduceIte, Nat.reduceEqDiff, Nat.reduceAdd, Nat.reduceMul, Nat.reduceSub, Nat.reduceLeDiff, List.length_cons, List.length_nil, List.length_append, List.append_assoc, List.take_succ_cons, List.take_zero, List.drop_succ_cons, List.drop_zero, List.set_cons_zero, List.set_cons_succ, true_or, or_true, and_self, Bool.false_eq_true, Nat.le_refl, Option.bind_some, Option.map_some, Option.getD_some, Option.isSome_some, List.map_cons, List.map_nil, List.cons_append, List.nil_append, List.append_nil, List.getElem?_cons_zero, List.getElem?_cons_succ, eq_self, Int.reduceLT, Int.reduceLE, Int.reduceNeg, Int.reduceEq, e12, e14, q1, hcut.isRow.ix, cz]
    have u2 := u.newBlk (dyC z) 39 true
    have gd := (u2.pull 2 rfl).rdAll (n := 2) rfl
    have gz := (u2.pull 0 rfl).rdAll (n := 2) rfl
    simp (disch := omega) only [VW, VY, VZ, VA, VB, VC, VE, TY, ↓reduceIte, Nat.reduceEqDiff, Nat.reduceAdd, Nat.reduceMul, Nat.reduceSub, Nat.reduceLeDiff, List.length_cons, List.length_nil, List.length_append, List.append_assoc, List.take_succ_cons, List.take_zero, List.drop_succ_cons, List.drop_zero, List.set_cons_zero, List.set_cons_succ, true_or, or_true, and_self, Bool.false_eq_true, Nat.le_refl, Option.bind_some, Option.map_some, Option.getD_some, Option.isSome_some, List.map_cons, List.map_nil, List.cons_append, List.nil_append, List.append_nil, List.getElem?_cons_zero, List.getElem?_cons_succ, eq_self, Int.reduceLT, Int.reduceLE, Int.reduceNeg, Int.reduceEq, e0, e5, gd, gz]
    refine .inl ⟨by kernel_rfl, ?_⟩; refine rsum_c (u2.pull 1 rfl) hdg hzg fun h5 u3 => ?_
    rw [← addL_take hz] at u3 ⊢
    simp (disch := omega) only [VW, VY, VZ, VA, VB, VC, VE, TY, ↓reduceIte, Nat.reduceEqDiff, Nat.reduceAdd, Nat.reduceMul, Nat.reduceSub, Nat.reduceLeDiff, List.length_cons, List.length_nil, List.length_append, List.append_assoc, List.take_succ_cons, List.take_zero, List.drop_succ_cons, List.drop_zero, List.set_cons_zero, List.set_cons_succ, true_or, or_true, and_self, Bool.false_eq_true, Nat.le_refl, Option.bind_some, Option.map_some, Option.getD_some, Option.isSome_some, List.map_cons, List.map_nil, List.cons_append, List.nil_append, List.append_nil, List.getElem?_cons_zero, List.getElem?_cons_succ, eq_self, Int.reduceLT, Int.reduceLE, Int.reduceNeg, Int.reduceEq, e5]
    refine sep_store (u3.pull 2 rfl) (by simp) fun h7 u7 => ?_
    have u7 := u7.as (ds := dyC ((addL (some x) (l.take (i + 1))).getD ⟨0, 0⟩)) (by simp [t_put])
    simp (disch := omega) only [VW, VY, VZ, VA, VB, VC, VE, TY, ↓reduceIte, Nat.reduceEqDiff, Nat.reduceAdd, Nat.reduceMul, Nat.reduceSub, Nat.reduceLeDiff, List.length_cons, List.length_nil, List.length_append, List.append_assoc, List.take_succ_cons, List.take_zero, List.drop_succ_cons, List.drop_zero, List.set_cons_zero, List.set_cons_succ, true_or, or_true, and_self, Bool.false_eq_true, Nat.le_refl, Option.bind_some, Option.map_some, Option.getD_some, Option.isSome_some, List.map_cons, List.map_nil, List.cons_append, List.nil_append, List.append_nil, List.getElem?_cons_zero, List.getElem?_cons_succ, eq_self, Int.reduceLT, Int.reduceLE, Int.reduceNeg, Int.reduceEq, e0, e4, e5, e12, e13, e14, wrap_in]
    exact ⟨_, by omega, i + 1, by simp, by omega, rfl, (u7.pull 2 rfl).tail.swap⟩
  · obtain rfl : i = l.length := by omega
    have q1 : ¬ (l.length : Int) < (l.length : Int) := by omega
    rw [List.take_length] at u
    have gd := (u.pull 1 rfl).rdAll (n := 2) rfl
    simp (disch := omega) only [VW, VY, VZ, VA, VB, VC, VE, TY, ↓reduceIte, Nat.reduceEqDiff, Nat.reduceAdd, Nat.reduceMul, Nat.reduceSub, Nat.reduceLeDiff, List.length_cons, List.length_nil, List.length_append, List.append_assoc, List.take_succ_cons, List.take_zero, List.drop_succ_cons, List.drop_zero, List.set_cons_zero, List.set_cons_succ, true_or, or_true, and_self, Bool.false_eq_true, Nat.le_refl, Option.bind_some, Option.map_some, Option.getD_some, Option.isSome_some, List.map_cons, List.map_nil, List.cons_append, List.nil_append, List.append_nil, List.getElem?_cons_zero, List.getElem?_cons_succ, eq_self, Int.reduceLT, Int.reduceLE, Int.reduceNeg, Int.reduceEq, q1, e4, e5, gd]
    refine sep_store (u.pull 3 rfl) (by simp) fun h7 u7 => ?_
    have u7 := u7.as (ds := dyC ((addL (some x) l).getD ⟨0, 0⟩)) (by simp [t_put])
    have gz := u7.rdAll (n := 2) rfl
    simp (disch := omega) only [VW, VY, VZ, VA, VB, VC, VE, TY, ↓reduceIte, Nat.reduceEqDiff, Nat.reduceAdd, Nat.reduceMul, Nat.reduceSub, Nat.reduceLeDiff, List.length_cons, List.length_nil, List.length_append, List.append_assoc, List.take_succ_cons, List.take_zero, List.drop_succ_cons, List.drop_zero, List.set_cons_zero, List.set_cons_succ, true_or, or_true, and_self, Bool.false_eq_true, Nat.le_refl, Option.bind_some, Option.map_some, Option.getD_some, Option.isSome_some, List.map_cons, List.map_nil, List.cons_append, List.nil_append, List.append_nil, List.getElem?_cons_zero, List.getElem?_cons_succ, eq_self, Int.reduceLT, Int.reduceLE, Int.reduceNeg, Int.reduceEq, gz, e4]
    exact hQ _ (u7.tail.pull 1 rfl).tail
theorem PoolVolume_i {x : Pl} {t : Int} {cs : List Value} {h : Heap} {Q : Value → Heap → Prop} (hx : Here h x cs) (hQ : ∀ h', Ext h h' → Q (optV (poolVM x t)) h') :
    CallsV Try.prog 29 [.agg cs.toArray, .int .i64 t] h Q := by
  have hxx := hx
  obtain ⟨v1, v2, v3, v4, v5, rfl, r1, r2, r3, r4, f5, r6⟩ := here_Pl hx
  refine CallsV.start Try.func29 rfl (by rw [Try.results29]) (by kernel_rfl) (by rw [Try.ntmps29]; simp) ?_
  unfold poolVM at hQ
  have s := Sep.blk2 h [v1, v2, v3, v4, .int .i64 x.work.steps, v5] [.int .i64 0, .int .i64 0] 60 39 true true
  simp (disch := omega) only [VW, VY, VZ, VA, VB, VC, VE, TY, ↓reduceIte, Nat.reduceEqDiff, Nat.reduceAdd, Nat.reduceMul, Nat.reduceSub, Nat.reduceLeDiff, List.length_cons, List.length_nil, List.length_append, List.append_assoc, List.take_succ_cons, List.take_zero, List.drop_succ_cons, List.drop_zero, List.set_cons_zero, List.set_cons_succ, true_or, or_true, and_self, Bool.false_eq_true, Nat.le_refl, Option.bind_some, Option.map_some, Option.getD_some, Option.isSome_some, List.map_cons, List.map_nil, List.cons_append, List.nil_append, List.append_nil, List.getElem?_cons_zero, List.getElem?_cons_succ, eq_self, Int.reduceLT, Int.reduceLE, Int.reduceNeg, Int.reduceEq]
  refine .inl ⟨by kernel_rfl, ?_⟩; refine isPool_c ((s.pull 1 rfl).ptr (hxx.mono s.ext)) fun h1 E1 => ?_
  have s := s.mono E1
  cases hp : poolM x t with
  | false =>
    rw [hp, if_neg (by simp), optV_eq] at hQ
    simp (disch := omega) only [VW, VY, VZ, VA, VB, VC, VE, TY, ↓reduceIte, Nat.reduceEqDiff, Nat.reduceAdd, Nat.reduceMul, Nat.reduceSub, Nat.reduceLeDiff, List.length_cons, List.length_nil, List.length_append, List.append_assoc, List.take_succ_cons, List.take_zero, List.drop_succ_cons, List.drop_zero, List.set_cons_zero, List.set_cons_succ, true_or, or_true, and_self, Bool.false_eq_true, Nat.le_refl, Option.bind_some, Option.map_some, Option.getD_some, Option.isSome_some, List.map_cons, List.map_nil, List.cons_append, List.nil_append, List.append_nil, List.getElem?_cons_zero, List.getElem?_cons_succ, eq_self, Int.reduceLT, Int.reduceLE, Int.reduceNeg, Int.reduceEq]
    refine sep_store (s.pull 0 rfl) (by simp) fun h7 s => ?_
    have s := s.as (ds := [.int .i64 0, .int .i64 0]) (by simp [t_put])
    have gz := (s.pull 0 rfl).rdAll (n := 2) rfl
    simp (disch := omega) only [VW, VY, VZ, VA, VB, VC, VE, TY, ↓reduceIte, Nat.reduceEqDiff, Nat.reduceAdd, Nat.reduceMul, Nat.reduceSub, Nat.reduceLeDiff, List.length_cons, List.length_nil, List.length_append, List.append_assoc, List.take_succ_cons, List.take_zero, List.drop_succ_cons, List.drop_zero, List.set_cons_zero, List.set_cons_succ, true_or, or_true, and_self, Bool.false_eq_true, Nat.le_refl, Option.bind_some, Option.map_some, Option.getD_some, Option.isSome_some, List.map_cons, List.map_nil, List.cons_append, List.nil_append, List.append_nil, List.getElem?_cons_zero, List.getElem?_cons_succ, eq_self, Int.reduceLT, Int.reduceLE, Int.reduceNeg, Int.reduceEq, gz]
    exact hQ _ s.ext
  | true =>
    have hp2 := hp
    unfold poolM at hp2
    simp only [Bool.and_eq_true] at hp2
    obtain ⟨hta, hw⟩ := hp2
    have pw : At h1 h.length 0 x.work := ⟨_, cellsAt_sub ((s.pull 1 rfl).rdAll (n := 6) rfl) 0 5 (by decide), mk_Wk (r1.mono s.ext) (r2.mono s.ext) (r3.mono s.ext) (r4.mono s.ext) f5⟩
    simp (disch := omega) only [VW, VY, VZ, VA, VB, VC, VE, TY, ↓reduceIte, Nat.reduceEqDiff, Nat.reduceAdd, Nat.reduceMul, Nat.reduceSub, Nat.reduceLeDiff, List.length_cons, List.length_nil, List.length_append, List.append_assoc, List.take_succ_cons, List.take_zero, List.drop_succ_cons, List.drop_zero, List.set_cons_zero, List.set_cons_succ, true_or, or_true, and_self, Bool.false_eq_true, Nat.le_refl, Option.bind_some, Option.map_some, Option.getD_some, Option.isSome_some, List.map_cons, List.map_nil, List.cons_append, List.nil_append, List.append_nil, List.getElem?_cons_zero, List.getElem?_cons_succ, eq_self, Int.reduceLT, Int.reduceLE, Int.reduceNeg, Int.reduceEq]
    refine .inl ⟨by kernel_rfl, ?_⟩; refine workVolumes_o pw hw fun w h2 s2 => ?_
    have s : Sep h h2 [ownA 39 (volsR (lists x.work)).1 w, blkA (h.length + 1) [.int .i64 0, .int .i64 0] 39, blkA h.length [v1, v2, v3, v4, .int .i64 x.work.steps, v5] 60] := s.add s2
    cases hv : (volsR (lists x.work)).2 with
    | false =>
      rw [hv, if_neg (by simp), optV_eq] at hQ
      simp (disch := omega) only [VW, VY, VZ, VA, VB, VC, VE, TY, ↓reduceIte, Nat.reduceEqDiff, Nat.reduceAdd, Nat.reduceMul, Nat.reduceSub, Nat.reduceLeDiff, List.length_cons, List.length_nil, List.length_append, List.append_assoc, List.take_succ_cons, List.take_zero, List.drop_succ_cons, List.drop_zero, List.set_cons_zero, List.set_cons_succ, true_or, or_true, and_self, Bool.false_eq_true, Nat.le_refl, Option.bind_some, Option.map_some, Option.getD_some, Option.isSome_some, List.map_cons, List.map_nil, List.cons_append, List.nil_append, List.append_nil, List.getElem?_cons_zero, List.getElem?_cons_succ, eq_self, Int.reduceLT, Int.reduceLE, Int.reduceNeg, Int.reduceEq]
      refine sep_store (s.pull 1 rfl) (by simp) fun h7 s => ?_
      have s := s.as (ds := [.int .i64 0, .int .i64 0]) (by simp [t_put])
      have gz := (s.pull 0 rfl).rdAll (n := 2) rfl
      simp (disch := omega) only [VW, VY, VZ, VA, VB, VC, VE, TY, ↓reduceIte, Nat.reduceEqDiff, Nat.reduceAdd, Nat.reduceMul, Nat.reduceSub, Nat.reduceLeDiff, List.length_cons, List.length_nil, List.length_append, List.append_assoc, List.take_succ_cons, List.take_zero, List.drop_succ_cons, List.drop_zero, List.set_cons_zero, List.set_cons_succ, true_or, or_true, and_self, Bool.false_eq_true, Nat.le_refl, Option.bind_some, Option.map_some, Option.getD_some, Option.isSome_some, List.map_cons, List.map_nil, List.cons_append, List.nil_append, List.append_nil, List.getElem?_cons_zero, List.getElem?_cons_succ, eq_self, Int.reduceLT, Int.reduceLE, Int.reduceNeg, Int.reduceEq, gz]
      exact hQ _ s.ext
    | true =>
      rw [if_pos ⟨hp, hv⟩] at hQ
      have hLl := volsR_len hv
      have hl4 : (lists x.work).length = 4 := rfl
      rw [hl4] at hLl
      have hG := poolVs_good hta
      have htl := takenM_len hta (by decide)
      have hpv : poolVs x = (volsR (lists x.work)).1 ++ takenVs x.taken := rfl
      generalize (volsR (lists x.work)).1 = L at *
      have s := s.newBlk [.bool true] 93 true
      have g5 := (s.pull 3 rfl).rd
      have r6' := r6.mono s.ext
      simp (disch := omega) only [VW, VY, VZ, VA, VB, VC, VE, TY, ↓reduceIte, Nat.reduceEqDiff, Nat.reduceAdd, Nat.reduceMul, Nat.reduceSub, Nat.reduceLeDiff, List.length_cons, List.length_nil, List.length_append, List.append_assoc, List.take_succ_cons, List.take_zero, List.drop_succ_cons, List.drop_zero, List.set_cons_zero, List.set_cons_succ, true_or, or_true, and_self, Bool.false_eq_true, Nat.le_refl, Option.bind_some, Option.map_some, Option.getD_some, Option.isSome_some, List.map_cons, List.map_nil, List.cons_append, List.nil_append, List.append_nil, List.getElem?_cons_zero, List.getElem?_cons_succ, eq_self, Int.reduceLT, Int.reduceLE, Int.reduceNeg, Int.reduceEq, g5, r6'.isRow.len]
      refine loop_rule (fun n e h' => ∃ (i : Nat) (vo : Value), e 2 = .pointer (some ⟨h.length, 0, none⟩) ∧ e 4 = .pointer (some ⟨h.length + 1, 0, none⟩) ∧ e 6 = vo ∧ e 8 = .pointer (some ⟨h2.length, 0, none⟩) ∧ e 27 = .int .i64 x.taken.length ∧ e 28 = .int .i64 i ∧ i ≤ x.taken.length ∧ n = x.taken.length - i ∧
        Sep h h' [ownA 39 (L ++ takenVs (x.taken.take i)) vo, blkA h2.length [.bool true] 93, blkA (h.length + 1) [.int .i64 0, .int .i64 0] 39, blkA h.length [v1, v2, v3, v4, .int .i64 x.work.steps, v5] 60]) ?_ x.taken.length _ _
        ⟨0, w, rfl, rfl, rfl, rfl, rfl, rfl, by omega, rfl, by rw [List.take_zero]; show Sep h _ [ownA 39 (L ++ []) w, _, _, _]; rw [List.append_nil]; exact s.swap⟩
      rintro n e h' ⟨i, vo, e2, e4, e6, e8, e27, e28, hi, rfl, u⟩
      have r6' := r6.mono u.ext
      simp (disch := omega) only [VW, VY, VZ, VA, VB, VC, VE, TY, ↓reduceIte, Nat.reduceEqDiff, Nat.reduceAdd, Nat.reduceMul, Nat.reduceSub, Nat.reduceLeDiff, List.length_cons, List.length_nil, List.length_append, List.append_assoc, List.take_succ_cons, List.take_zero, List.drop_succ_cons, List.drop_zero, List.set_cons_zero, List.set_cons_succ, true_or, or_true, and_self, Bool.false_eq_true, Nat.le_refl, Option.bind_some, Option.map_some, Option.getD_some, Option.isSome_some, List.map_cons, List.map_nil, List.cons_append, List.nil_append, List.append_nil, List.getElem?_cons_zero, List.getElem?_cons_succ, eq_self, Int.reduceLT, Int.reduceLE, Int.reduceNeg, Int.reduceEq, e27, e28]
      by_cases hlt : i < x.taken.length
      · obtain ⟨y, hy⟩ := get_some hlt
        have q1 : (i : Int) < (x.taken.length : Int) := by omega
        have py := r6'.ptr hy
        rw [Tkn.sz] at py
        obtain ⟨w1, w2, t0, t1, t2, t3, f1, f2, k1, k2, tc⟩ := at_Tkn py
        have pb : At h' (rowB v5) (rowO v5 + i * 4 + 1) y.box := ⟨_, cellsAt_sub tc 1 3 (by decide), mk_Bx f2 k1 k2⟩
        have hby := takenM_box hta y (List.mem_of_getElem? hy)
        have hvg := (volM_eq hby).2
        have g5 := (u.pull 3 rfl).rd
        simp (disch := omega) only [VW, VY, VZ, VA, VB, VC, VE, TY, ↓reduceIte, Nat.reduceEqDiff, Nat.reduceAdd, Nat.reduceMul, Nat.reduceSub, Nat.reduceLeDiff, List.length_cons, List.length_nil, List.length_append, List.append_assoc, List.take_succ_cons, List.take_zero, List.drop_succ_cons, List.drop_zero, List.set_cons_zero, List.set_cons_succ, true_or, or_true, and_self, Bool.false_eq_true, Nat.le_refl, Option.bind_some, Option.map_some, Option.getD_some, Option.isSome_some, List.map_cons, List.map_nil, List.cons_append, List.nil_append, List.append_nil, List.getElem?_cons_zero, List.getElem?_cons_succ, eq_self, Int.reduceLT, Int.reduceLE, Int.reduceNeg, Int.reduceEq, e2, e6, e8, e28, q1, g5, r6'.isRow.ix]
        refine .inl ⟨by kernel_rfl, ?_⟩; refine volume_c pb hby fun h3 E3 => ?_
        have u := u.mono E3
        simp (disch := omega) only [VW, VY, VZ, VA, VB, VC, VE, TY, ↓reduceIte, Nat.reduceEqDiff, Nat.reduceAdd, Nat.reduceMul, Nat.reduceSub, Nat.reduceLeDiff, List.length_cons, List.length_nil, List.length_append, List.append_assoc, List.take_succ_cons, List.take_zero, List.drop_succ_cons, List.drop_zero, List.set_cons_zero, List.set_cons_succ, true_or, or_true, and_self, Bool.false_eq_true, Nat.le_refl, Option.bind_some, Option.map_some, Option.getD_some, Option.isSome_some, List.map_cons, List.map_nil, List.cons_append, List.nil_append, List.append_nil, List.getElem?_cons_zero, List.getElem?_cons_succ, eq_self, Int.reduceLT, Int.reduceLE, Int.reduceNeg, Int.reduceEq]
        refine .inl ⟨by kernel_rfl, ?_⟩; refine keep_c (u.pull 1 rfl) fun h4 u4 => ?_
        rw [Bool.and_true] at u4 ⊢
        rw [if_pos rfl]
        simp (disch := omega) only [VW, VY, VZ, VA, VB, VC, VE, TY, ↓reduceIte, Nat.reduceEqDiff, Nat.reduceAdd, Nat.reduceMul, Nat.reduceSub, Nat.reduceLeDiff, List.length_cons, List.length_nil, List.length_append, List.append_assoc, List.take_succ_cons, List.take_zero, List.drop_succ_cons, List.drop_zero, List.set_cons_zero, List.set_cons_succ, true_or, or_true, and_self, Bool.false_eq_true, Nat.le_refl, Option.bind_some, Option.map_some, Option.getD_some, Option.isSome_some, List.map_cons, List.map_nil, List.cons_append, List.nil_append, List.append_nil, List.getElem?_cons_zero, List.getElem?_cons_succ, eq_self, Int.reduceLT, Int.reduceLE, Int.reduceNeg, Int.reduceEq]
        have sq := ((u4.swap).rep0 (Dy_rep hvg h4)).swap
        have hln : (L ++ takenVs (x.taken.take i)).length = 4 + i := by rw [List.length_append, takenVs_len, hLl, List.length_take]; omega
        refine sep_append (y := volM y.box) sq rfl rfl te47 tk39 rfl (by decide) (by rw [hln]; simp only []; omega) fun vo' h5 u5 => ?_
        simp (disch := omega) only [VW, VY, VZ, VA, VB, VC, VE, TY, ↓reduceIte, Nat.reduceEqDiff, Nat.reduceAdd, Nat.reduceMul, Nat.reduceSub, Nat.reduceLeDiff, List.length_cons, List.length_nil, List.length_append, List.append_assoc, List.take_succ_cons, List.take_zero, List.drop_succ_cons, List.drop_zero, List.set_cons_zero, List.set_cons_succ, true_or, or_true, and_self, Bool.false_eq_true, Nat.le_refl, Option.bind_some, Option.map_some, Option.getD_some, Option.isSome_some, List.map_cons, List.map_nil, List.cons_append, List.nil_append, List.append_nil, List.getElem?_cons_zero, List.getElem?_cons_succ, eq_self, Int.reduceLT, Int.reduceLE, Int.reduceNeg, Int.reduceEq, e2, e4, e8, e27, e28, wrap_in]
        refine ⟨_, by omega, i + 1, vo', rfl, by simp, by omega, rfl, ?_⟩
        rw [takenVs_take hy, ← List.append_assoc]
        exact u5
      · obtain rfl : i = x.taken.length := by omega
        have q1 : ¬ (x.taken.length : Int) < (x.taken.length : Int) := by omega
        rw [List.take_length, ← hpv] at u
        have hPl : (poolVs x).length = 4 + x.taken.length := by rw [hpv, List.length_append, takenVs_len, hLl]
        generalize poolVs x = V at *
        obtain ⟨z, V', rfl⟩ : ∃ z V', V = z :: V' := by
          cases V with
          | nil => simp at hPl; omega
          | cons z V' => exact ⟨z, V', rfl⟩
        have hVl : V'.length = 3 + x.taken.length := by simp at hPl; omega
        simp (disch := omega) only [VW, VY, VZ, VA, VB, VC, VE, TY, ↓reduceIte, Nat.reduceEqDiff, Nat.reduceAdd, Nat.reduceMul, Nat.reduceSub, Nat.reduceLeDiff, List.length_cons, List.length_nil, List.length_append, List.append_assoc, List.take_succ_cons, List.take_zero, List.drop_succ_cons, List.drop_zero, List.set_cons_zero, List.set_cons_succ, true_or, or_true, and_self, Bool.false_eq_true, Nat.le_refl, Option.bind_some, Option.map_some, Option.getD_some, Option.isSome_some, List.map_cons, List.map_nil, List.cons_append, List.nil_append, List.append_nil, List.getElem?_cons_zero, List.getElem?_cons_succ, eq_self, Int.reduceLT, Int.reduceLE, Int.reduceNeg, Int.reduceEq, e27, e28, e6, e8, q1]
        refine .inl ⟨by kernel_rfl, ?_⟩; refine total_c u.swap hG (by omega) fun h3 u => ?_
        rw [addL_cons (hG z (by simp)), optV_eq] at hQ
        have u := u.newBlk (dyC ((addL (some z) V').getD ⟨0, 0⟩)) 39 true
        have ga := (u.pull 0 rfl).rdAll (n := 2) rfl
        have gr := (u.pull 1 rfl).rd
        simp (disch := omega) only [VW, VY, VZ, VA, VB, VC, VE, TY, ↓reduceIte, Nat.reduceEqDiff, Nat.reduceAdd, Nat.reduceMul, Nat.reduceSub, Nat.reduceLeDiff, List.length_cons, List.length_nil, List.length_append, List.append_assoc, List.take_succ_cons, List.take_zero, List.drop_succ_cons, List.drop_zero, List.set_cons_zero, List.set_cons_succ, true_or, or_true, and_self, Bool.false_eq_true, Nat.le_refl, Option.bind_some, Option.map_some, Option.getD_some, Option.isSome_some, List.map_cons, List.map_nil, List.cons_append, List.nil_append, List.append_nil, List.getElem?_cons_zero, List.getElem?_cons_succ, eq_self, Int.reduceLT, Int.reduceLE, Int.reduceNeg, Int.reduceEq]
        refine draw_ord [0, 1, 2, 3, 4, 5, 6] (by kernel_rfl) (by simp only [List.filterMap_cons, List.filterMap_nil, List.getElem?_cons_zero, List.getElem?_cons_succ]; rfl) ?_
        simp (disch := omega) only [VW, VY, VZ, VA, VB, VC, VE, TY, ↓reduceIte, Nat.reduceEqDiff, Nat.reduceAdd, Nat.reduceMul, Nat.reduceSub, Nat.reduceLeDiff, List.length_cons, List.length_nil, List.length_append, List.append_assoc, List.take_succ_cons, List.take_zero, List.drop_succ_cons, List.drop_zero, List.set_cons_zero, List.set_cons_succ, true_or, or_true, and_self, Bool.false_eq_true, Nat.le_refl, Option.bind_some, Option.map_some, Option.getD_some, Option.isSome_some, List.map_cons, List.map_nil, List.cons_append, List.nil_append, List.append_nil, List.getElem?_cons_zero, List.getElem?_cons_succ, eq_self, Int.reduceLT, Int.reduceLE, Int.reduceNeg, Int.reduceEq, e4, e8, ga, gr]
        refine sep_store (u.pull 3 rfl) (by simp) fun h7 u7 => ?_
        have u7 := u7.as (ds := dyC ((addL (some z) V').getD ⟨0, 0⟩)) (by simp [t_put])
        have ga := (u7.pull 1 rfl).rdAll (n := 2) rfl
        have gr := (u7.pull 2 rfl).rd
        have gz := (u7.pull 0 rfl).rdAll (n := 2) rfl
        simp (disch := omega) only [VW, VY, VZ, VA, VB, VC, VE, TY, ↓reduceIte, Nat.reduceEqDiff, Nat.reduceAdd, Nat.reduceMul, Nat.reduceSub, Nat.reduceLeDiff, List.length_cons, List.length_nil, List.length_append, List.append_assoc, List.take_succ_cons, List.take_zero, List.drop_succ_cons, List.drop_zero, List.set_cons_zero, List.set_cons_succ, true_or, or_true, and_self, Bool.false_eq_true, Nat.le_refl, Option.bind_some, Option.map_some, Option.getD_some, Option.isSome_some, List.map_cons, List.map_nil, List.cons_append, List.nil_append, List.append_nil, List.getElem?_cons_zero, List.getElem?_cons_succ, eq_self, Int.reduceLT, Int.reduceLE, Int.reduceNeg, Int.reduceEq, e4, e8, ga, gr, gz]
        exact hQ _ u7.ext
end Go.Proofs

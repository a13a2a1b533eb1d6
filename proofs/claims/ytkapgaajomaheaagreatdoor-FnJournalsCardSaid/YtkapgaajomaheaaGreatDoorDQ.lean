/- Contracts of functions, facts of types, or the plain law behind one statement (own work): DQ. Conditions: those told in each theorem. -/
import Derived.Test.YtkapgaajomaheaaGreatDoorDN
set_option linter.all false
set_option linter.unusedSimpArgs false
set_option linter.unusedVariables false
set_option maxRecDepth 4000
namespace Go.Proofs
open Go Go.V
/- Journals: a compact journal tells the same. -/
theorem compact_ok {j C : Jn} (h : compactM j = (C, true)) : ∃ l, marksJ j = some l ∧ C = ⟨linesB 0 (lastsL l), ⟨#[]⟩⟩ ∧ C.safe.size + C.pending.size ≤ 800 := by
  unfold compactM at h
  cases hm : marksJ j with
  | none => rw [hm] at h; cases congrArg Prod.snd h
  | some l =>
    rw [hm] at h
    have e : C = ⟨linesB 0 (lastsL l), ⟨#[]⟩⟩ := (congrArg Prod.fst h).symm
    have hn := marksJ_len hm
    have hl := lastsL_len l
    have hs := linesB_size (lastsL l) 0 (by omega) fun x hx => marks_in hm x (lastsL_mem hx)
    have z0 : (⟨#[]⟩ : ByteArray).size = 0 := rfl
    refine ⟨l, rfl, e, ?_⟩
    rw [e]
    simp only []
    omega
theorem last_of_last {j : Jn} {l : List Mk} {x : Mk} (h : marksJ j = some l) (hx : x ∈ lastsL l) : lastM j x.path = (x.kind, true) := by
  obtain ⟨h1, h2⟩ := lasts_iff.1 hx
  obtain ⟨k1, k2, k3⟩ := lastK_pos h h1
  unfold lastM
  rw [h]
  simp only []
  rw [if_pos k3, h2, decide_eq_true (by omega)]
theorem last_in_compact {C : Jn} {l : List Mk} {x : Mk} (h : marksJ C = some (lastsL l)) (hx : x ∈ l) : (lastM C x.path).2 = true := by
  have hp : hasP (lastsL l) x.path = true := by rw [lasts_has]; exact hasP_iff.2 ⟨x, hx, rfl⟩
  obtain ⟨k1, k2, k3⟩ := lastK_pos h hp
  unfold lastM
  rw [h]
  simp only []
  rw [if_pos k3]
  exact decide_eq_true (by omega)
theorem apart_paths {l : List Mk} {i k : Nat} {x y : Mk} (hk : k < i) (hx : (lastsL l)[i]? = some x) (hy : (lastsL l)[k]? = some y) : ¬ y.path = x.path := by
  intro e
  have hn := lasts_nodup l
  have h1 : ((lastsL l).map (·.path))[i]? = some x.path := by rw [List.getElem?_map, hx]; rfl
  have h2 : ((lastsL l).map (·.path))[k]? = some x.path := by rw [List.getElem?_map, hy]; show some y.path = _; rw [e]
  have hi : i < ((lastsL l).map (·.path)).length := by
    rcases Nat.lt_or_ge i ((lastsL l).map (·.path)).length with c | c
    · exact c
    · rw [List.getElem?_eq_none c] at h1; cases h1
  have := (List.getElem?_inj hi hn).1 (h1.trans h2.symm)
  omega
theorem journals_compact {h h1 : Heap} {j A Cc : Jn} {m : Mk} {M : List Mk} {O X : List ByteArray} {T : Int} {ok one nine : Bool} {p5 p6 p7 p9 p15 p17 : Nat} {w11 w13 w19 w21 w23 w25 : Value} {e : Env} {K : VX → Env → Heap → Prop}
    (hj : j.safe.size + j.pending.size ≤ 300000) (hC : compactM j = (Cc, one)) (hM : (marksJ j).getD [] = M) (hO : (openM j).1 = O)
    (key : ∀ e' h', JrI h j A Cc m M O X T ok one nine p5 p6 p7 p9 p15 p17 w11 w13 w19 w21 w23 w25 e' h' → K .norm e' h')
    (i : JrI h j A Cc m M O X T ok one nine p5 p6 p7 p9 p15 p17 w11 w13 w19 w21 w23 w25 e h1) : wpV Tryz.prog (partC [true, true, true, true, true, true, true, true, true, true, true, true, true, true, true, true, true, true, false] (Tryz.f3.body.getD .skip)) e h1 K := by
  -- in: laws.FnJournals
  obtain ⟨e5, e6, e7, e8, e9, e10, e11, e12, e13, e14, e15, e16, e17, e18, e19, e20, e21, e22, e23, e24, e25, e26, e29, e30, e31, e32, sL⟩ := i
  conv => arg 2; whnf
  cases one with
  | false =>
    simp (disch := omega) only [VW, VY, VZ, VA, VB, VC, VE, TY, ↓reduceIte, Nat.reduceEqDiff, Nat.reduceAdd, Nat.reduceMul, Nat.reduceSub, Nat.reduceLeDiff, List.length_cons, List.length_nil, List.length_append, List.append_assoc, List.take_succ_cons, List.take_zero, List.drop_succ_cons, List.drop_zero, List.set_cons_zero, List.set_cons_succ, true_or, or_true, and_self, Bool.false_eq_true, Nat.le_refl, Option.bind_some, Option.map_some, Option.getD_some, Option.isSome_some, List.map_cons, List.map_nil, List.cons_append, List.nil_append, List.append_nil, List.getElem?_cons_zero, List.getElem?_cons_succ, eq_self, Int.reduceLT, Int.reduceLE, Int.reduceNeg, Int.reduceEq, e12]
    exact key _ _ ⟨e5, e6, e7, e8, e9, e10, e11, e12, e13, e14, e15, e16, e17, e18, e19, e20, e21, e22, e23, e24, e25, e26, e29, e30, e31, e32, sL⟩
  | true =>
    obtain ⟨l, a1, a2, a3⟩ := compact_ok hC
    have hCm := compact_marks a1
    rw [← a2] at hCm
    have hMl : M = l := by rw [← hM, a1]; rfl
    subst hMl
    have hCp : Cc.pending = ⟨#[]⟩ := by rw [a2]
    have hOe : openM Cc = (O, true) := by
      rw [← hO]
      unfold openM
      rw [a1, hCm]
      simp only [open_lasts]
    have hlen := (marksJ_len a1).1
    have hlen2 := lastsL_len M
    have dM : decide (lastsL M = lastsL M) = true := decide_eq_true rfl
    have dO : decide (O = O) = true := decide_eq_true rfl
    have g15 := (sL.pull 5 rfl).rdAll (n := 2) rfl
    simp (disch := omega) only [VW, VY, VZ, VA, VB, VC, VE, TY, ↓reduceIte, Nat.reduceEqDiff, Nat.reduceAdd, Nat.reduceMul, Nat.reduceSub, Nat.reduceLeDiff, List.length_cons, List.length_nil, List.length_append, List.append_assoc, List.take_succ_cons, List.take_zero, List.drop_succ_cons, List.drop_zero, List.set_cons_zero, List.set_cons_succ, true_or, or_true, and_self, Bool.false_eq_true, Nat.le_refl, Option.bind_some, Option.map_some, Option.getD_some, Option.isSome_some, List.map_cons, List.map_nil, List.cons_append, List.nil_append, List.append_nil, List.getElem?_cons_zero, List.getElem?_cons_succ, eq_self, Int.reduceLT, Int.reduceLE, Int.reduceNeg, Int.reduceEq, e12, e15, g15]
    refine .inl ⟨by kernel_rfl, ?_⟩; refine MarksOf_i (jn_okJ (j := Cc) (by omega) _) (siz_le_Jn (by omega)) fun w37 h2 s2 => ?_
    rw [hCm] at s2 ⊢
    have s2 : Sep _ _ [repA (lastsL M) [w37]] := s2
    have sB := sL.add s2
    have g17 := (sB.pull 5 rfl).rdAll (n := 2) rfl
    simp (disch := omega) only [VW, VY, VZ, VA, VB, VC, VE, TY, ↓reduceIte, Nat.reduceEqDiff, Nat.reduceAdd, Nat.reduceMul, Nat.reduceSub, Nat.reduceLeDiff, List.length_cons, List.length_nil, List.length_append, List.append_assoc, List.take_succ_cons, List.take_zero, List.drop_succ_cons, List.drop_zero, List.set_cons_zero, List.set_cons_succ, true_or, or_true, and_self, Bool.false_eq_true, Nat.le_refl, Option.bind_some, Option.map_some, Option.getD_some, Option.isSome_some, List.map_cons, List.map_nil, List.cons_append, List.nil_append, List.append_nil, List.getElem?_cons_zero, List.getElem?_cons_succ, eq_self, Int.reduceLT, Int.reduceLE, Int.reduceNeg, Int.reduceEq, e17, g17]
    refine .inl ⟨by kernel_rfl, ?_⟩; refine MarksOf_s (jn_okJ (j := Cc) (by omega) _) (siz_le_Jn (by omega)) fun w39 h3 s3 => ?_
    rw [hCm] at s3 ⊢
    have s3 : Sep _ _ [repA (lastsL M) [w39]] := s3
    have sB := sB.add s3
    have g15 := (sB.pull 7 rfl).rdAll (n := 2) rfl
    simp (disch := omega) only [VW, VY, VZ, VA, VB, VC, VE, TY, ↓reduceIte, Nat.reduceEqDiff, Nat.reduceAdd, Nat.reduceMul, Nat.reduceSub, Nat.reduceLeDiff, List.length_cons, List.length_nil, List.length_append, List.append_assoc, List.take_succ_cons, List.take_zero, List.drop_succ_cons, List.drop_zero, List.set_cons_zero, List.set_cons_succ, true_or, or_true, and_self, Bool.false_eq_true, Nat.le_refl, Option.bind_some, Option.map_some, Option.getD_some, Option.isSome_some, List.map_cons, List.map_nil, List.cons_append, List.nil_append, List.append_nil, List.getElem?_cons_zero, List.getElem?_cons_succ, eq_self, Int.reduceLT, Int.reduceLE, Int.reduceNeg, Int.reduceEq, e15, g15]
    refine .inl ⟨by kernel_rfl, ?_⟩; refine OpenPaths_i (jn_okJ (j := Cc) (by omega) _) (siz_le_Jn (by omega)) fun w41 h4 s4 => ?_
    rw [hOe] at s4 ⊢
    have sB := sB.add s4
    simp (disch := omega) only [VW, VY, VZ, VA, VB, VC, VE, TY, ↓reduceIte, Nat.reduceEqDiff, Nat.reduceAdd, Nat.reduceMul, Nat.reduceSub, Nat.reduceLeDiff, List.length_cons, List.length_nil, List.length_append, List.append_assoc, List.take_succ_cons, List.take_zero, List.drop_succ_cons, List.drop_zero, List.set_cons_zero, List.set_cons_succ, true_or, or_true, and_self, Bool.false_eq_true, Nat.le_refl, Option.bind_some, Option.map_some, Option.getD_some, Option.isSome_some, List.map_cons, List.map_nil, List.cons_append, List.nil_append, List.append_nil, List.getElem?_cons_zero, List.getElem?_cons_succ, eq_self, Int.reduceLT, Int.reduceLE, Int.reduceNeg, Int.reduceEq, Option.isSome_some]
    refine .inl ⟨by kernel_rfl, ?_⟩; refine qMarks_c (sB.pull 2 rfl).rowR (sB.pull 1 rfl).rowR fun h5 E5 => ?_
    have sB := sB.mono E5
    rw [dM]
    simp (disch := omega) only [VW, VY, VZ, VA, VB, VC, VE, TY, ↓reduceIte, Nat.reduceEqDiff, Nat.reduceAdd, Nat.reduceMul, Nat.reduceSub, Nat.reduceLeDiff, List.length_cons, List.length_nil, List.length_append, List.append_assoc, List.take_succ_cons, List.take_zero, List.drop_succ_cons, List.drop_zero, List.set_cons_zero, List.set_cons_succ, true_or, or_true, and_self, Bool.false_eq_true, Nat.le_refl, Option.bind_some, Option.map_some, Option.getD_some, Option.isSome_some, List.map_cons, List.map_nil, List.cons_append, List.nil_append, List.append_nil, List.getElem?_cons_zero, List.getElem?_cons_succ, eq_self, Int.reduceLT, Int.reduceLE, Int.reduceNeg, Int.reduceEq, e21]
    refine .inl ⟨by kernel_rfl, ?_⟩; refine qTexts_c sB.rowR (sB.pull 5 rfl).rowR fun h6 E6 => ?_
    have sB := sB.mono E6
    rw [dO]
    have g17 : getC h6 p17 1 = some (.string ⟨#[]⟩) := by
      have g := (sB.pull 7 rfl).rd 1
      rw [g, ← hCp]
      rfl
    have r39 := (sB.pull 1 rfl).rowR
    have sL := sB.tail.tail.tail
    simp (disch := omega) only [VW, VY, VZ, VA, VB, VC, VE, TY, ↓reduceIte, Nat.reduceEqDiff, Nat.reduceAdd, Nat.reduceMul, Nat.reduceSub, Nat.reduceLeDiff, List.length_cons, List.length_nil, List.length_append, List.append_assoc, List.take_succ_cons, List.take_zero, List.drop_succ_cons, List.drop_zero, List.set_cons_zero, List.set_cons_succ, true_or, or_true, and_self, Bool.false_eq_true, Nat.le_refl, Option.bind_some, Option.map_some, Option.getD_some, Option.isSome_some, List.map_cons, List.map_nil, List.cons_append, List.nil_append, List.append_nil, List.getElem?_cons_zero, List.getElem?_cons_succ, eq_self, Int.reduceLT, Int.reduceLE, Int.reduceNeg, Int.reduceEq, e17, g17, r39.isRow.len]
    have E0 := Ext.refl h6
    refine loop_rule (fun n e h' => ∃ (i : Nat), JrI h j A Cc m M O X T ok true nine p5 p6 p7 p9 p15 p17 w11 w13 w19 w21 w23 w25 e h' ∧ Ext h6 h' ∧ e 39 = w39 ∧ e 307 = w39 ∧ e 308 = .int .i64 (lastsL M).length ∧ e 309 = .int .i64 i ∧ i ≤ (lastsL M).length ∧ n = (lastsL M).length - i) ?_ (lastsL M).length _ _
      ⟨0, ⟨e5, e6, e7, e8, e9, e10, e11, e12, e13, e14, e15, e16, e17, e18, e19, e20, e21, e22, e23, e24, e25, e26, e29, e30, e31, e32, sL⟩, E0, rfl, rfl, rfl, rfl, Nat.zero_le _, rfl⟩
    clear e5 e6 e7 e8 e9 e10 e11 e12 e13 e14 e15 e16 e17 e18 e19 e20 e21 e22 e23 e24 e25 e26 e29 e30 e31 e32 sB g15 s2 s3 s4 E5 E6 sL
    rintro n e h' ⟨i, ⟨e5, e6, e7, e8, e9, e10, e11, e12, e13, e14, e15, e16, e17, e18, e19, e20, e21, e22, e23, e24, e25, e26, e29, e30, e31, e32, sL⟩, E, e39, e307, e308, e309, hi, rfl⟩
    simp (disch := omega) only [VW, VY, VZ, VA, VB, VC, VE, TY, ↓reduceIte, Nat.reduceEqDiff, Nat.reduceAdd, Nat.reduceMul, Nat.reduceSub, Nat.reduceLeDiff, List.length_cons, List.length_nil, List.length_append, List.append_assoc, List.take_succ_cons, List.take_zero, List.drop_succ_cons, List.drop_zero, List.set_cons_zero, List.set_cons_succ, true_or, or_true, and_self, Bool.false_eq_true, Nat.le_refl, Option.bind_some, Option.map_some, Option.getD_some, Option.isSome_some, List.map_cons, List.map_nil, List.cons_append, List.nil_append, List.append_nil, List.getElem?_cons_zero, List.getElem?_cons_succ, eq_self, Int.reduceLT, Int.reduceLE, Int.reduceNeg, Int.reduceEq, e308, e309]
    have r := r39.mono E
    by_cases hlt : i < (lastsL M).length
    · obtain ⟨x, hx⟩ := get_some hlt
      have c1 : (i : Int) < ((lastsL M).length : Int) := by omega
      have hxm := List.mem_of_getElem? hx
      have hxp := markM_path (marks_in a1 x (lastsL_mem hxm))
      obtain ⟨cs, x3, x4⟩ := Row.at r hx
      obtain ⟨rfl, f1, f2⟩ := here_Mk x4
      rw [Mk.sz] at x3
      have sB := sL.newBlk (mC x) 26 true
      have gj := (sB.pull 12 rfl).rdAll (n := 2) rfl
      have gx := sB.rd
      have gxa := sB.rdAll (n := 2) rfl
      simp (disch := omega) only [VW, VY, VZ, VA, VB, VC, VE, TY, ↓reduceIte, Nat.reduceEqDiff, Nat.reduceAdd, Nat.reduceMul, Nat.reduceSub, Nat.reduceLeDiff, List.length_cons, List.length_nil, List.length_append, List.append_assoc, List.take_succ_cons, List.take_zero, List.drop_succ_cons, List.drop_zero, List.set_cons_zero, List.set_cons_succ, true_or, or_true, and_self, Bool.false_eq_true, Nat.le_refl, Option.bind_some, Option.map_some, Option.getD_some, Option.isSome_some, List.map_cons, List.map_nil, List.cons_append, List.nil_append, List.append_nil, List.getElem?_cons_zero, List.getElem?_cons_succ, eq_self, Int.reduceLT, Int.reduceLE, Int.reduceNeg, Int.reduceEq, c1, e307, e309, r.isRow.ix, x3, e5, gj, gx]
      refine .inl ⟨by kernel_rfl, ?_⟩; refine LastMark_i (jn_okJ (j := j) (by omega) _) (siz_le_Jn (by omega)) (by omega) fun h7 E7 => ?_
      rw [last_of_last a1 hxm]
      have sB := sB.mono E7
      have gx := sB.rd
      have dk : decide (x.kind = x.kind) = true := decide_eq_true rfl
      have k0 : (0 : Int) ≤ (i : Int) := by omega
      have k1 : (i : Int) ≤ ((lastsL M).length : Int) := by omega
      have Eh : Ext h' h7 := (Ext.one h' _).trans E7
      have r7 := r.mono Eh
      have hcut := r7.cut (lo := 0) (m := i) (Nat.zero_le _) (by omega)
      rw [List.drop_zero, Mk.sz] at hcut
      have cap := r7.isRow.cap
      have htl : ((lastsL M).take i).length = i := by rw [List.length_take]; omega
      have lenZ := hcut.isRow.len Tryz.prog
      rw [htl] at lenZ
      have ixZ := hcut.isRow.ix Tryz.prog
      rw [htl] at ixZ
      have gxp : getC h7 h'.length 0 = some (.string x.path) := gx 0
      have hpl : h'.length < h7.length := Nat.lt_of_lt_of_le (by simp) E7.le
      have sL := sB.tail
      clear gj sB
      simp (disch := omega) only [VW, VY, VZ, VA, VB, VC, VE, TY, ↓reduceIte, Nat.reduceEqDiff, Nat.reduceAdd, Nat.reduceMul, Nat.reduceSub, Nat.reduceLeDiff, List.length_cons, List.length_nil, List.length_append, List.append_assoc, List.take_succ_cons, List.take_zero, List.drop_succ_cons, List.drop_zero, List.set_cons_zero, List.set_cons_succ, true_or, or_true, and_self, Bool.false_eq_true, Nat.le_refl, Option.bind_some, Option.map_some, Option.getD_some, Option.isSome_some, List.map_cons, List.map_nil, List.cons_append, List.nil_append, List.append_nil, List.getElem?_cons_zero, List.getElem?_cons_succ, eq_self, Int.reduceLT, Int.reduceLE, Int.reduceNeg, Int.reduceEq, gx, dk, e39, r7.isRow.sl, k0, k1, lenZ]
      refine loop_rule (fun n e h'' => ∃ (k : Nat), JrI h j A Cc m M O X T ok true nine p5 p6 p7 p9 p15 p17 w11 w13 w19 w21 w23 w25 e h'' ∧ Ext h7 h'' ∧ e 39 = w39 ∧ e 307 = w39 ∧ e 308 = .int .i64 (lastsL M).length ∧ e 309 = .int .i64 i ∧ e 44 = .pointer (some ⟨h'.length, 0, none⟩) ∧ e 331 = cutV w39 2 0 i ∧ e 332 = .int .i64 i ∧ e 333 = .int .i64 k ∧ k ≤ i ∧ n = i - k) ?_ i _ _
        ⟨0, ⟨e5, e6, e7, e8, e9, e10, e11, e12, e13, e14, e15, e16, e17, e18, e19, e20, e21, e22, e23, e24, e25, e26, e29, e30, e31, e32, sL⟩, .refl _, e39, e307, e308, e309, rfl, rfl, rfl, rfl, Nat.zero_le _, rfl⟩
      clear e5 e6 e7 e8 e9 e10 e11 e12 e13 e14 e15 e16 e17 e18 e19 e20 e21 e22 e23 e24 e25 e26 e29 e30 e31 e32 sL e39 e307 e308 e309
      rintro n e h'' ⟨k, ⟨e5, e6, e7, e8, e9, e10, e11, e12, e13, e14, e15, e16, e17, e18, e19, e20, e21, e22, e23, e24, e25, e26, e29, e30, e31, e32, sL⟩, E2, e39, e307, e308, e309, e44, e331, e332, e333, hk, rfl⟩
      simp (disch := omega) only [VW, VY, VZ, VA, VB, VC, VE, TY, ↓reduceIte, Nat.reduceEqDiff, Nat.reduceAdd, Nat.reduceMul, Nat.reduceSub, Nat.reduceLeDiff, List.length_cons, List.length_nil, List.length_append, List.append_assoc, List.take_succ_cons, List.take_zero, List.drop_succ_cons, List.drop_zero, List.set_cons_zero, List.set_cons_succ, true_or, or_true, and_self, Bool.false_eq_true, Nat.le_refl, Option.bind_some, Option.map_some, Option.getD_some, Option.isSome_some, List.map_cons, List.map_nil, List.cons_append, List.nil_append, List.append_nil, List.getElem?_cons_zero, List.getElem?_cons_succ, eq_self, Int.reduceLT, Int.reduceLE, Int.reduceNeg, Int.reduceEq, e332, e333]
      by_cases hlt2 : k < i
      · obtain ⟨y, hy⟩ := get_some (show k < (lastsL M).length by omega)
        have hyt : ((lastsL M).take i)[k]? = some y := by rw [List.getElem?_take, if_pos hlt2]; exact hy
        have c2 : (k : Int) < (i : Int) := by omega
        obtain ⟨cs, y3, y4⟩ := Row.at (hcut.mono E2) hyt
        obtain ⟨rfl, _, _⟩ := here_Mk y4
        rw [Mk.sz] at y3
        have sB := sL.newBlk (mC y) 26 true
        have gy := sB.rd
        have E3 := E2.snoc (some ⟨mC y, 26, false, true⟩)
        have gx2 : getC (h'' ++ [some ⟨mC y, 26, false, true⟩]) h'.length 0 = some (.string x.path) := (E3.getC hpl 0).trans gxp
        have hne := apart_paths hlt2 hx hy
        have sL := sB.tail
        have dne : decide (y.path = x.path) = false := decide_eq_false hne
        simp (disch := omega) only [VW, VY, VZ, VA, VB, VC, VE, TY, ↓reduceIte, Nat.reduceEqDiff, Nat.reduceAdd, Nat.reduceMul, Nat.reduceSub, Nat.reduceLeDiff, List.length_cons, List.length_nil, List.length_append, List.append_assoc, List.take_succ_cons, List.take_zero, List.drop_succ_cons, List.drop_zero, List.set_cons_zero, List.set_cons_succ, true_or, or_true, and_self, Bool.false_eq_true, Nat.le_refl, Option.bind_some, Option.map_some, Option.getD_some, Option.isSome_some, List.map_cons, List.map_nil, List.cons_append, List.nil_append, List.append_nil, List.getElem?_cons_zero, List.getElem?_cons_succ, eq_self, Int.reduceLT, Int.reduceLE, Int.reduceNeg, Int.reduceEq, c2, e331, e333, ixZ, y3, gy, gx2, e44, dne, e332, wrap_in]
        exact ⟨_, by omega, k + 1, ⟨e5, e6, e7, e8, e9, e10, e11, e12, e13, e14, e15, e16, e17, e18, e19, e20, e21, e22, e23, e24, e25, e26, e29, e30, e31, e32, sL⟩, E3, e39, e307, e308, e309, by simp, by omega, rfl⟩
      · obtain rfl : k = i := by omega
        have c2 : ¬ (k : Int) < (k : Int) := by omega
        simp (disch := omega) only [VW, VY, VZ, VA, VB, VC, VE, TY, ↓reduceIte, Nat.reduceEqDiff, Nat.reduceAdd, Nat.reduceMul, Nat.reduceSub, Nat.reduceLeDiff, List.length_cons, List.length_nil, List.length_append, List.append_assoc, List.take_succ_cons, List.take_zero, List.drop_succ_cons, List.drop_zero, List.set_cons_zero, List.set_cons_succ, true_or, or_true, and_self, Bool.false_eq_true, Nat.le_refl, Option.bind_some, Option.map_some, Option.getD_some, Option.isSome_some, List.map_cons, List.map_nil, List.cons_append, List.nil_append, List.append_nil, List.getElem?_cons_zero, List.getElem?_cons_succ, eq_self, Int.reduceLT, Int.reduceLE, Int.reduceNeg, Int.reduceEq, c2, e309, wrap_in]
        exact ⟨_, by omega, k + 1, ⟨e5, e6, e7, e8, e9, e10, e11, e12, e13, e14, e15, e16, e17, e18, e19, e20, e21, e22, e23, e24, e25, e26, e29, e30, e31, e32, sL⟩, (E.trans Eh).trans E2, e39, e307, e308, by simp, by omega, rfl⟩
    · obtain rfl : i = (lastsL M).length := by omega
      have c1 : ¬ ((lastsL M).length : Int) < ((lastsL M).length : Int) := by omega
      have r13 := (sL.pull 6 rfl).rowR
      simp (disch := omega) only [VW, VY, VZ, VA, VB, VC, VE, TY, ↓reduceIte, Nat.reduceEqDiff, Nat.reduceAdd, Nat.reduceMul, Nat.reduceSub, Nat.reduceLeDiff, List.length_cons, List.length_nil, List.length_append, List.append_assoc, List.take_succ_cons, List.take_zero, List.drop_succ_cons, List.drop_zero, List.set_cons_zero, List.set_cons_succ, true_or, or_true, and_self, Bool.false_eq_true, Nat.le_refl, Option.bind_some, Option.map_some, Option.getD_some, Option.isSome_some, List.map_cons, List.map_nil, List.cons_append, List.nil_append, List.append_nil, List.getElem?_cons_zero, List.getElem?_cons_succ, eq_self, Int.reduceLT, Int.reduceLE, Int.reduceNeg, Int.reduceEq, c1, e13, r13.isRow.len]
      refine loop_rule (fun n e h' => ∃ (i : Nat), JrI h j A Cc m M O X T ok true nine p5 p6 p7 p9 p15 p17 w11 w13 w19 w21 w23 w25 e h' ∧ e 344 = w13 ∧ e 345 = .int .i64 M.length ∧ e 346 = .int .i64 i ∧ i ≤ M.length ∧ n = M.length - i) ?_ M.length _ _
        ⟨0, ⟨e5, e6, e7, e8, e9, e10, e11, e12, e13, e14, e15, e16, e17, e18, e19, e20, e21, e22, e23, e24, e25, e26, e29, e30, e31, e32, sL⟩, rfl, rfl, rfl, Nat.zero_le _, rfl⟩
      clear e5 e6 e7 e8 e9 e10 e11 e12 e13 e14 e15 e16 e17 e18 e19 e20 e21 e22 e23 e24 e25 e26 e29 e30 e31 e32 sL r13 r E
      rintro n e h' ⟨i, ⟨e5, e6, e7, e8, e9, e10, e11, e12, e13, e14, e15, e16, e17, e18, e19, e20, e21, e22, e23, e24, e25, e26, e29, e30, e31, e32, sL⟩, e344, e345, e346, hi, rfl⟩
      simp (disch := omega) only [VW, VY, VZ, VA, VB, VC, VE, TY, ↓reduceIte, Nat.reduceEqDiff, Nat.reduceAdd, Nat.reduceMul, Nat.reduceSub, Nat.reduceLeDiff, List.length_cons, List.length_nil, List.length_append, List.append_assoc, List.take_succ_cons, List.take_zero, List.drop_succ_cons, List.drop_zero, List.set_cons_zero, List.set_cons_succ, true_or, or_true, and_self, Bool.false_eq_true, Nat.le_refl, Option.bind_some, Option.map_some, Option.getD_some, Option.isSome_some, List.map_cons, List.map_nil, List.cons_append, List.nil_append, List.append_nil, List.getElem?_cons_zero, List.getElem?_cons_succ, eq_self, Int.reduceLT, Int.reduceLE, Int.reduceNeg, Int.reduceEq, e345, e346]
      by_cases hlt : i < M.length
      · obtain ⟨x, hx⟩ := get_some hlt
        have c1 : (i : Int) < (M.length : Int) := by omega
        have hxm := List.mem_of_getElem? hx
        have hxp := markM_path (marks_in a1 x hxm)
        have r := (sL.pull 6 rfl).rowR
        obtain ⟨cs, x3, x4⟩ := Row.at r hx
        obtain ⟨rfl, f1, f2⟩ := here_Mk x4
        rw [Mk.sz] at x3
        have sB := sL.newBlk (mC x) 26 true
        have gj := (sB.pull 6 rfl).rdAll (n := 2) rfl
        have gx := sB.rd
        simp (disch := omega) only [VW, VY, VZ, VA, VB, VC, VE, TY, ↓reduceIte, Nat.reduceEqDiff, Nat.reduceAdd, Nat.reduceMul, Nat.reduceSub, Nat.reduceLeDiff, List.length_cons, List.length_nil, List.length_append, List.append_assoc, List.take_succ_cons, List.take_zero, List.drop_succ_cons, List.drop_zero, List.set_cons_zero, List.set_cons_succ, true_or, or_true, and_self, Bool.false_eq_true, Nat.le_refl, Option.bind_some, Option.map_some, Option.getD_some, Option.isSome_some, List.map_cons, List.map_nil, List.cons_append, List.nil_append, List.append_nil, List.getElem?_cons_zero, List.getElem?_cons_succ, eq_self, Int.reduceLT, Int.reduceLE, Int.reduceNeg, Int.reduceEq, c1, e344, e346, r.isRow.ix, x3, e15, gj, gx]
        refine .inl ⟨by kernel_rfl, ?_⟩; refine LastMark_i (jn_okJ (j := Cc) (by omega) _) (siz_le_Jn (by omega)) (by omega) fun h7 E7 => ?_
        rw [last_in_compact hCm hxm]
        have sL := (sB.mono E7).tail
        simp (disch := omega) only [VW, VY, VZ, VA, VB, VC, VE, TY, ↓reduceIte, Nat.reduceEqDiff, Nat.reduceAdd, Nat.reduceMul, Nat.reduceSub, Nat.reduceLeDiff, List.length_cons, List.length_nil, List.length_append, List.append_assoc, List.take_succ_cons, List.take_zero, List.drop_succ_cons, List.drop_zero, List.set_cons_zero, List.set_cons_succ, true_or, or_true, and_self, Bool.false_eq_true, Nat.le_refl, Option.bind_some, Option.map_some, Option.getD_some, Option.isSome_some, List.map_cons, List.map_nil, List.cons_append, List.nil_append, List.append_nil, List.getElem?_cons_zero, List.getElem?_cons_succ, eq_self, Int.reduceLT, Int.reduceLE, Int.reduceNeg, Int.reduceEq, e344, e345, e346, wrap_in]
        exact ⟨_, by omega, i + 1, ⟨e5, e6, e7, e8, e9, e10, e11, e12, e13, e14, e15, e16, e17, e18, e19, e20, e21, e22, e23, e24, e25, e26, e29, e30, e31, e32, sL⟩, by simp, by omega, rfl⟩
      · obtain rfl : i = M.length := by omega
        have c1 : ¬ (M.length : Int) < (M.length : Int) := by omega
        simp (disch := omega) only [VW, VY, VZ, VA, VB, VC, VE, TY, ↓reduceIte, Nat.reduceEqDiff, Nat.reduceAdd, Nat.reduceMul, Nat.reduceSub, Nat.reduceLeDiff, List.length_cons, List.length_nil, List.length_append, List.append_assoc, List.take_succ_cons, List.take_zero, List.drop_succ_cons, List.drop_zero, List.set_cons_zero, List.set_cons_succ, true_or, or_true, and_self, Bool.false_eq_true, Nat.le_refl, Option.bind_some, Option.map_some, Option.getD_some, Option.isSome_some, List.map_cons, List.map_nil, List.cons_append, List.nil_append, List.append_nil, List.getElem?_cons_zero, List.getElem?_cons_succ, eq_self, Int.reduceLT, Int.reduceLE, Int.reduceNeg, Int.reduceEq, c1]
        exact key _ _ ⟨e5, e6, e7, e8, e9, e10, e11, e12, e13, e14, e15, e16, e17, e18, e19, e20, e21, e22, e23, e24, e25, e26, e29, e30, e31, e32, sL⟩
end Go.Proofs

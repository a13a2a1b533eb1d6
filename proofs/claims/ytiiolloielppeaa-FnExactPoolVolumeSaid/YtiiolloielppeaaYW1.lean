/- Contracts of functions, facts of types, or the plain law behind one statement (own work): YW1. Conditions: those told in each theorem. -/
import Derived.Test.YtiiolloielppeaaYV
set_option linter.all false
set_option linter.unusedSimpArgs false
set_option linter.unusedVariables false
set_option maxRecDepth 4000
namespace Go.Proofs
open Go Go.V
theorem row_Dy' {l : List Dy} {v : Value} {h : Heap} {i : Nat} {d : Dy} (r : Row h l v) (hi : l[i]? = some d) : cellsAt h (rowB v) (rowO v + i * 2) 2 = some (dyC d) := by
  have p := r.ptr hi
  rw [Dy.sz] at p
  exact (at_Dy p).2.2.2.2
theorem takenVs_take {l : List Tkn} {i : Nat} {t : Tkn} (h : l[i]? = some t) : takenVs (l.take (i + 1)) = takenVs (l.take i) ++ [volM t.box] := by
  unfold takenVs
  rw [List.take_add_one, h, List.map_append]
  rfl
theorem takenVs_len (l : List Tkn) : (takenVs l).length = l.length := by unfold takenVs; rw [List.length_map]
theorem dyInt_c {n : Int} {h : Heap} {Q : Value → Heap → Prop} (hQ : ∀ h', Ext h h' → Q (.agg (dyC ⟨n, 0⟩).toArray) h') : CallsV Try.prog 61 [.int .i64 n] h Q := by
  refine CallsV.start Try.func61 rfl (by rw [Try.results61]) (by kernel_rfl) (by rw [Try.ntmps61]; simp) ?_
  simp (disch := omega) only [VW, VY, VZ, VA, VB, VC, VE, TY, ↓reduceIte, Nat.reduceEqDiff, Nat.reduceAdd, Nat.reduceMul, Nat.reduceSub, Nat.reduceLeDiff, List.length_cons, List.length_nil, List.length_append, List.append_assoc, List.take_succ_cons, List.take_zero, List.drop_succ_cons, List.drop_zero, List.set_cons_zero, List.set_cons_succ, true_or, or_true, and_self, Bool.false_eq_true, Nat.le_refl, Option.bind_some, Option.map_some, Option.getD_some, Option.isSome_some, List.map_cons, List.map_nil, List.cons_append, List.nil_append, List.append_nil, List.getElem?_cons_zero, List.getElem?_cons_succ, eq_self, Int.reduceLT, Int.reduceLE, Int.reduceNeg, Int.reduceEq]
  exact hQ _ (.app _ _)
theorem PoolVolume_s {x : Pl} {t : Int} {cs : List Value} {h : Heap} {Q : Value → Heap → Prop} (hx : Here h x cs) (hQ : ∀ h', Ext h h' → Q (optV (poolVM x t)) h') :
    CallsV Try.prog 27 [.agg cs.toArray, .int .i64 t] h Q := by
  have hxx := hx
  obtain ⟨v1, v2, v3, v4, v5, rfl, r1, r2, r3, r4, f5, r6⟩ := here_Pl hx
  refine CallsV.start Try.func27 rfl (by rw [Try.results27]) (by kernel_rfl) (by rw [Try.ntmps27]; simp) ?_
  unfold poolVM at hQ
  have s := Sep.blk2 h [v1, v2, v3, v4, .int .i64 x.work.steps, v5] [.int .i64 0, .int .i64 0] 60 39 true true
  have ga := (s.pull 1 rfl).rdAll (n := 6) rfl
  simp (disch := omega) only [VW, VY, VZ, VA, VB, VC, VE, TY, ↓reduceIte, Nat.reduceEqDiff, Nat.reduceAdd, Nat.reduceMul, Nat.reduceSub, Nat.reduceLeDiff, List.length_cons, List.length_nil, List.length_append, List.append_assoc, List.take_succ_cons, List.take_zero, List.drop_succ_cons, List.drop_zero, List.set_cons_zero, List.set_cons_succ, true_or, or_true, and_self, Bool.false_eq_true, Nat.le_refl, Option.bind_some, Option.map_some, Option.getD_some, Option.isSome_some, List.map_cons, List.map_nil, List.cons_append, List.nil_append, List.append_nil, List.getElem?_cons_zero, List.getElem?_cons_succ, eq_self, Int.reduceLT, Int.reduceLE, Int.reduceNeg, Int.reduceEq, ga]
  refine .inl ⟨by kernel_rfl, ?_⟩; refine wkGood_c (hxx.mono s.ext) fun h1 E1 => ?_
  have s := s.mono E1
  cases hp : poolM x t with
  | false =>
    rw [hp, if_neg (by simp), optV_eq] at hQ
    simp (disch := omega) only [VW, VY, VZ, VA, VB, VC, VE, TY, ↓reduceIte, Nat.reduceEqDiff, Nat.reduceAdd, Nat.reduceMul, Nat.reduceSub, Nat.reduceLeDiff, List.length_cons, List.length_nil, List.length_append, List.append_assoc, List.take_succ_cons, List.take_zero, List.drop_succ_cons, List.drop_zero, List.set_cons_zero, List.set_cons_succ, true_or, or_true, and_self, Bool.false_eq_true, Nat.le_refl, Option.bind_some, Option.map_some, Option.getD_some, Option.isSome_some, List.map_cons, List.map_nil, List.cons_append, List.nil_append, List.append_nil, List.getElem?_cons_zero, List.getElem?_cons_succ, eq_self, Int.reduceLT, Int.reduceLE, Int.reduceNeg, Int.reduceEq]
    refine sep_store (s.pull 0 rfl) (by simp) fun h7 s => ?_
    have s := s.as (ds := [.int .i64 0, .int .i64 0]) (by simp [t_put])
    have gz := (s.pull 0 rfl).rdAll (n := 2) rfl
    simp (disch := omega) only [VW, VY, VZ, VA, VB, VC, VE, TY, ↓reduceIte, Nat.reduceEqDiff, Nat.reduceAdd, Nat.reduceMul, Nat.reduceSub, Nat.reduceLeDiff, List.length_cons, List.length_nil, List.length_append, List.append_assoc, List.take_succ_cons, List.take_zero, List.drop_succ_cons, List.drop_zero, List.set_cons_zero, List.set_cons_succ, true_or, or_true, and_self, Bool.false_eq_true, Nat.le_refl, Option.bind_some, Option.map_some, Option.getD_some, Option.isSome_some, List.map_cons, List.map_nil, List.cons_append, List.nil_append, List.append_nil, List.getElem?_cons_zero, List.getElem?_cons_succ, eq_self, Int.reduceLT, Int.reduceLE, Int.reduceNeg, Int.reduceEq, gz]
    exact hQ _ s.ext
  | true =>
    have hp2 := hp
    unfold poolM at hp2
    simp only [Bool.and_eq_true] at hp2
    obtain ⟨hta, hw⟩ := hp2
    have ga : cellsAt _ h.length 0 5 = _ := cellsAt_sub ((s.pull 1 rfl).rdAll (n := 6) rfl) 0 5 (by decide)
    simp (disch := omega) only [VW, VY, VZ, VA, VB, VC, VE, TY, ↓reduceIte, Nat.reduceEqDiff, Nat.reduceAdd, Nat.reduceMul, Nat.reduceSub, Nat.reduceLeDiff, List.length_cons, List.length_nil, List.length_append, List.append_assoc, List.take_succ_cons, List.take_zero, List.drop_succ_cons, List.drop_zero, List.set_cons_zero, List.set_cons_succ, true_or, or_true, and_self, Bool.false_eq_true, Nat.le_refl, Option.bind_some, Option.map_some, Option.getD_some, Option.isSome_some, List.map_cons, List.map_nil, List.cons_append, List.nil_append, List.append_nil, List.getElem?_cons_zero, List.getElem?_cons_succ, eq_self, Int.reduceLT, Int.reduceLE, Int.reduceNeg, Int.reduceEq, ga]
    refine .inl ⟨by kernel_rfl, ?_⟩; refine brVolumes_o (x := x.work) (mk_Wk (r1.mono s.ext) (r2.mono s.ext) (r3.mono s.ext) (r4.mono s.ext) f5) hw fun w h2 s2 => ?_
    have s : Sep h h2 [ownA 39 (volsR (lists x.work)).1 w, blkA (h.length + 1) [.int .i64 0, .int .i64 0] 39, blkA h.length [v1, v2, v3, v4, .int .i64 x.work.steps, v5] 60] := s.add s2
    cases hv : (volsR (lists x.work)).2 with
    | false =>
      rw [hv, if_neg (by simp), optV_eq] at hQ
      simp (disch := omega) only [VW, VY, VZ, VA, VB, VC, VE, TY, ↓reduceIte, Nat.reduceEqDiff, Nat.reduceAdd, Nat.reduceMul, Nat.reduceSub, Nat.reduceLeDiff, List.length_cons, List.length_nil, List.length_append, List.append_assoc, List.take_succ_cons, List.take_zero, List.drop_succ_cons, List.drop_zero, List.set_cons_zero, List.set_cons_succ, true_or, or_true, and_self, Bool.false_eq_true, Nat.le_refl, Option.bind_some, Option.map_some, Option.getD_some, Option.isSome_some, List.map_cons, List.map_nil, List.cons_append, List.nil_append, List.append_nil, List.getElem?_cons_zero, List.getElem?_cons_succ, eq_self, Int.reduceLT, Int.reduceLE, Int.reduceNeg, Int.reduceEq]
      refine sep_store (s.pull 1 rfl) (by simp) fun h7 s => ?_
      have s := s.as (ds := [.int .i64 0, .int .i64 0]) (by simp [t_put])
      have gz := (s.pull 0 rfl).rdAll (n := 2) rfl
      simp (disch := omega) only [VW, VY, VZ, VA, VB, VC, VE, TY, ↓reduceIte, Nat.reduceEqDiff, Nat.reduceAdd, Nat.reduceMul, Nat.reduceSub, Nat.reduceLeDiff, List.length_cons, List.length_nil, List.length_append, List.append_assoc, List.take_succ_cons, List.take_zero, List.drop_succ_cons, List.drop_zero, List.set_cons_zero, List.set_cons_succ, true_or, or_true, and_self, Bool.false_eq_true, Nat.le_refl, Option.bind_some, Option.map_some, Option.getD_some, Option.isSome_some, List.map_cons, List.map_nil, List.cons_append, List.nil_append, List.append_nil, List.getElem?_cons_zero, List.getElem?_cons_succ, eq_self, Int.reduceLT, Int.reduceLE, Int.reduceNeg, Int.reduceEq, gz]
      exact hQ _ s.ext
    | true =>
      rw [if_pos ⟨hp, hv⟩] at hQ
      have hLl := volsR_len hv
      have hl4 : (lists x.work).length = 4 := rfl
      rw [hl4] at hLl
      have hG := poolVs_good hta
      have htl := takenM_len hta (by decide)
      have hpv : poolVs x = (volsR (lists x.work)).1 ++ takenVs x.taken := rfl
      generalize (volsR (lists x.work)).1 = L at *
      have g5 := (s.pull 2 rfl).rd
      have r6' := r6.mono s.ext
      simp (disch := omega) only [VW, VY, VZ, VA, VB, VC, VE, TY, ↓reduceIte, Nat.reduceEqDiff, Nat.reduceAdd, Nat.reduceMul, Nat.reduceSub, Nat.reduceLeDiff, List.length_cons, List.length_nil, List.length_append, List.append_assoc, List.take_succ_cons, List.take_zero, List.drop_succ_cons, List.drop_zero, List.set_cons_zero, List.set_cons_succ, true_or, or_true, and_self, Bool.false_eq_true, Nat.le_refl, Option.bind_some, Option.map_some, Option.getD_some, Option.isSome_some, List.map_cons, List.map_nil, List.cons_append, List.nil_append, List.append_nil, List.getElem?_cons_zero, List.getElem?_cons_succ, eq_self, Int.reduceLT, Int.reduceLE, Int.reduceNeg, Int.reduceEq, g5, r6'.isRow.len]
      refine loop_rule (fun n e h' => ∃ (i : Nat) (vo : Value), e 4 = .pointer (some ⟨h.length + 1, 0, none⟩) ∧ e 6 = vo ∧ e 30 = v5 ∧ e 31 = .int .i64 x.taken.length ∧ e 32 = .int .i64 i ∧ i ≤ x.taken.length ∧ n = x.taken.length - i ∧
        Sep h h' [ownA 39 (L ++ takenVs (x.taken.take i)) vo, blkA (h.length + 1) [.int .i64 0, .int .i64 0] 39]) ?_ x.taken.length _ _
        ⟨0, w, rfl, rfl, rfl, rfl, rfl, by omega, rfl, by rw [List.take_zero]; show Sep h h2 [ownA 39 (L ++ []) w, _]; rw [List.append_nil]; exact Sep.keep (L := [_, _]) s⟩
      rintro n e h' ⟨i, vo, e4, e6, e30, e31, e32, hi, rfl, u⟩
      have r6' := r6.mono u.ext
      simp (disch := omega) only [VW, VY, VZ, VA, VB, VC, VE, TY, ↓reduceIte, Nat.reduceEqDiff, Nat.reduceAdd, Nat.reduceMul, Nat.reduceSub, Nat.reduceLeDiff, List.length_cons, List.length_nil, List.length_append, List.append_assoc, List.take_succ_cons, List.take_zero, List.drop_succ_cons, List.drop_zero, List.set_cons_zero, List.set_cons_succ, true_or, or_true, and_self, Bool.false_eq_true, Nat.le_refl, Option.bind_some, Option.map_some, Option.getD_some, Option.isSome_some, List.map_cons, List.map_nil, List.cons_append, List.nil_append, List.append_nil, List.getElem?_cons_zero, List.getElem?_cons_succ, eq_self, Int.reduceLT, Int.reduceLE, Int.reduceNeg, Int.reduceEq, e31, e32]
      by_cases hlt : i < x.taken.length
      · obtain ⟨y, hy⟩ := get_some hlt
        have q1 : (i : Int) < (x.taken.length : Int) := by omega
        obtain ⟨ts, t3, t4⟩ := r6'.at hy
        rw [Tkn.sz] at t3
        obtain ⟨w1, w2, rfl, f1, f2, k1, k2⟩ := here_Tkn t4
        have hby := takenM_box hta y (List.mem_of_getElem? hy)
        have hvg := (volM_eq hby).2
        simp (disch := omega) only [VW, VY, VZ, VA, VB, VC, VE, TY, ↓reduceIte, Nat.reduceEqDiff, Nat.reduceAdd, Nat.reduceMul, Nat.reduceSub, Nat.reduceLeDiff, List.length_cons, List.length_nil, List.length_append, List.append_assoc, List.take_succ_cons, List.take_zero, List.drop_succ_cons, List.drop_zero, List.set_cons_zero, List.set_cons_succ, true_or, or_true, and_self, Bool.false_eq_true, Nat.le_refl, Option.bind_some, Option.map_some, Option.getD_some, Option.isSome_some, List.map_cons, List.map_nil, List.cons_append, List.nil_append, List.append_nil, List.getElem?_cons_zero, List.getElem?_cons_succ, eq_self, Int.reduceLT, Int.reduceLE, Int.reduceNeg, Int.reduceEq, e30, e32, e6, q1, r6'.isRow.ix, t3]
        have u2 := u.newBlk [.int .i64 y.worker, .int .i64 y.box.k, w1, w2] 100 true
        have Eb := Ext.one h' (some ⟨[.int .i64 y.worker, .int .i64 y.box.k, w1, w2], 100, false, true⟩)
        have gb : cellsAt _ h'.length 1 3 = _ := cellsAt_sub (u2.rdAll (n := 4) rfl) 1 3 (by decide)
        refine .inl ⟨by kernel_rfl, ?_⟩; refine bxVolume_c (x := y.box) (mk_Bx f2 (k1.mono Eb) (k2.mono Eb)) hby fun h3 E3 => ?_
        have u3 := u2.mono E3
        simp (disch := omega) only [VW, VY, VZ, VA, VB, VC, VE, TY, ↓reduceIte, Nat.reduceEqDiff, Nat.reduceAdd, Nat.reduceMul, Nat.reduceSub, Nat.reduceLeDiff, List.length_cons, List.length_nil, List.length_append, List.append_assoc, List.take_succ_cons, List.take_zero, List.drop_succ_cons, List.drop_zero, List.set_cons_zero, List.set_cons_succ, true_or, or_true, and_self, Bool.false_eq_true, Nat.le_refl, Option.bind_some, Option.map_some, Option.getD_some, Option.isSome_some, List.map_cons, List.map_nil, List.cons_append, List.nil_append, List.append_nil, List.getElem?_cons_zero, List.getElem?_cons_succ, eq_self, Int.reduceLT, Int.reduceLE, Int.reduceNeg, Int.reduceEq]
        have sq := ((u3.tail).rep0 (Dy_rep hvg h3)).swap
        have hln : (L ++ takenVs (x.taken.take i)).length = 4 + i := by rw [List.length_append, takenVs_len, hLl, List.length_take]; omega
        refine sep_append (y := volM y.box) sq rfl rfl te47 tk39 rfl (by decide) (by rw [hln]; simp only []; omega) fun vo' h5 u5 => ?_
        simp (disch := omega) only [VW, VY, VZ, VA, VB, VC, VE, TY, ↓reduceIte, Nat.reduceEqDiff, Nat.reduceAdd, Nat.reduceMul, Nat.reduceSub, Nat.reduceLeDiff, List.length_cons, List.length_nil, List.length_append, List.append_assoc, List.take_succ_cons, List.take_zero, List.drop_succ_cons, List.drop_zero, List.set_cons_zero, List.set_cons_succ, true_or, or_true, and_self, Bool.false_eq_true, Nat.le_refl, Option.bind_some, Option.map_some, Option.getD_some, Option.isSome_some, List.map_cons, List.map_nil, List.cons_append, List.nil_append, List.append_nil, List.getElem?_cons_zero, List.getElem?_cons_succ, eq_self, Int.reduceLT, Int.reduceLE, Int.reduceNeg, Int.reduceEq, e4, e30, e31, e32, wrap_in]
        refine ⟨_, by omega, i + 1, vo', rfl, by simp, by omega, rfl, ?_⟩
        rw [takenVs_take hy, ← List.append_assoc]
        exact u5
      · obtain rfl : i = x.taken.length := by omega
        have q1 : ¬ (x.taken.length : Int) < (x.taken.length : Int) := by omega
        rw [List.take_length, ← hpv] at u
        simp (disch := omega) only [VW, VY, VZ, VA, VB, VC, VE, TY, ↓reduceIte, Nat.reduceEqDiff, Nat.reduceAdd, Nat.reduceMul, Nat.reduceSub, Nat.reduceLeDiff, List.length_cons, List.length_nil, List.length_append, List.append_assoc, List.take_succ_cons, List.take_zero, List.drop_succ_cons, List.drop_zero, List.set_cons_zero, List.set_cons_succ, true_or, or_true, and_self, Bool.false_eq_true, Nat.le_refl, Option.bind_some, Option.map_some, Option.getD_some, Option.isSome_some, List.map_cons, List.map_nil, List.cons_append, List.nil_append, List.append_nil, List.getElem?_cons_zero, List.getElem?_cons_succ, eq_self, Int.reduceLT, Int.reduceLE, Int.reduceNeg, Int.reduceEq, e31, e32, q1]
        refine .inl ⟨by kernel_rfl, ?_⟩; refine dyInt_c fun h3 E3 => ?_
        have u := u.mono E3
        have u := u.newBlk (dyC ⟨0, 0⟩) 39 true
        have rw0 := (u.pull 1 rfl).row
        have hPl : (poolVs x).length = 4 + x.taken.length := by rw [hpv, List.length_append, takenVs_len, hLl]
        generalize poolVs x = V at *
        have hLe := rw0.le
        simp (disch := omega) only [VW, VY, VZ, VA, VB, VC, VE, TY, ↓reduceIte, Nat.reduceEqDiff, Nat.reduceAdd, Nat.reduceMul, Nat.reduceSub, Nat.reduceLeDiff, List.length_cons, List.length_nil, List.length_append, List.append_assoc, List.take_succ_cons, List.take_zero, List.drop_succ_cons, List.drop_zero, List.set_cons_zero, List.set_cons_succ, true_or, or_true, and_self, Bool.false_eq_true, Nat.le_refl, Option.bind_some, Option.map_some, Option.getD_some, Option.isSome_some, List.map_cons, List.map_nil, List.cons_append, List.nil_append, List.append_nil, List.getElem?_cons_zero, List.getElem?_cons_succ, eq_self, Int.reduceLT, Int.reduceLE, Int.reduceNeg, Int.reduceEq, e4, e6, rw0.isRow.len]
        refine loop_rule (fun n e h' => ∃ (i : Nat) (d : Dy), e 4 = .pointer (some ⟨h.length + 1, 0, none⟩) ∧ e 10 = .pointer (some ⟨h3.length, 0, none⟩) ∧ e 44 = vo ∧ e 45 = .int .i64 V.length ∧ e 46 = .int .i64 i ∧ i ≤ V.length ∧ n = V.length - i ∧ addL (some ⟨0, 0⟩) (V.take i) = some d ∧
          Sep h h' [blkA h3.length (dyC d) 39, ownA 39 V vo, blkA (h.length + 1) [.int .i64 0, .int .i64 0] 39]) ?_ V.length _ _
          ⟨0, ⟨0, 0⟩, e4, rfl, rfl, rfl, rfl, by omega, rfl, rfl, u⟩
        rintro n e h' ⟨i, d, e4, e10, e44, e45, e46, hi, rfl, hd, u⟩
        have rw1 := (u.pull 1 rfl).row
        simp (disch := omega) only [VW, VY, VZ, VA, VB, VC, VE, TY, ↓reduceIte, Nat.reduceEqDiff, Nat.reduceAdd, Nat.reduceMul, Nat.reduceSub, Nat.reduceLeDiff, List.length_cons, List.length_nil, List.length_append, List.append_assoc, List.take_succ_cons, List.take_zero, List.drop_succ_cons, List.drop_zero, List.set_cons_zero, List.set_cons_succ, true_or, or_true, and_self, Bool.false_eq_true, Nat.le_refl, Option.bind_some, Option.map_some, Option.getD_some, Option.isSome_some, List.map_cons, List.map_nil, List.cons_append, List.nil_append, List.append_nil, List.getElem?_cons_zero, List.getElem?_cons_succ, eq_self, Int.reduceLT, Int.reduceLE, Int.reduceNeg, Int.reduceEq, e45, e46]
        by_cases hlt : i < V.length
        · obtain ⟨z, hz⟩ := get_some hlt
          have q1 : (i : Int) < (V.length : Int) := by omega
          have hzg := hG z (List.mem_of_getElem? hz)
          have hdg := addL_good good00 V i d hd
          have cz := row_Dy' rw1 hz
          simp (disch := omega) only [VW, VY, VZ, VA, VB, VC, VE, TY, ↓reduceIte, Nat.reduceEqDiff, Nat.reduceAdd, Nat.reduceMul, Nat.reduceSub, Nat.reduceLeDiff, List.length_cons, List.length_nil, List.length_append, List.append_assoc, List.take_succ_cons, List.take_zero, List.drop_succ_cons, List.drop_zero, List.set_cons_zero, List.set_cons_succ, true_or, or_true, and_self, Bool.false_eq_true, Nat.le_refl, Option.bind_some, Option.map_some, Option.getD_some, Option.isSome_some, List.map_cons, List.map_nil, List.cons_append, List.nil_append, List.append_nil, List.getElem?_cons_zero, List.getElem?_cons_succ, eq_self, Int.reduceLT, Int.reduceLE, Int.reduceNeg, Int.reduceEq, e44, e46, q1, rw1.isRow.ix, cz]
          have u2 := u.newBlk (dyC z) 39 true
          have gd := (u2.pull 1 rfl).rdAll (n := 2) rfl
          have gzz := (u2.pull 0 rfl).rdAll (n := 2) rfl
          simp (disch := omega) only [VW, VY, VZ, VA, VB, VC, VE, TY, ↓reduceIte, Nat.reduceEqDiff, Nat.reduceAdd, Nat.reduceMul, Nat.reduceSub, Nat.reduceLeDiff, List.length_cons, List.length_nil, List.length_append, List.append_assoc, List.take_succ_cons, List.take_zero, List.drop_succ_cons, List.drop_zero, List.set_cons_zero, List.set_cons_succ, true_or, or_true, and_self, Bool.false_eq_true, Nat.le_refl, Option.bind_some, Option.map_some, Option.getD_some, Option.isSome_some, List.map_cons, List.map_nil, List.cons_append, List.nil_append, List.append_nil, List.getElem?_cons_zero, List.getElem?_cons_succ, eq_self, Int.reduceLT, Int.reduceLE, Int.reduceNeg, Int.reduceEq, e10, gd, gzz]
          refine .inl ⟨by kernel_rfl, ?_⟩; refine dyAdd_c hdg hzg fun h5 E5 => ?_
          have u3 := u2.mono E5
          cases hac : sumM' d z with
          | none =>
            have hst : addL (some ⟨0, 0⟩) (V.take (i + 1)) = none := by rw [addL_take hz, hd]; exact hac
            rw [addL_stop hst, optV_eq] at hQ
            rw [show optV none = .tuple #[.agg (dyC ⟨0, 0⟩).toArray, .bool false] from rfl]
            have s := (u3.mono (Ext.one h5 (some ⟨dyC ⟨0, 0⟩, 39, false, true⟩))).pull 3 rfl
            simp (disch := omega) only [VW, VY, VZ, VA, VB, VC, VE, TY, ↓reduceIte, Nat.reduceEqDiff, Nat.reduceAdd, Nat.reduceMul, Nat.reduceSub, Nat.reduceLeDiff, List.length_cons, List.length_nil, List.length_append, List.append_assoc, List.take_succ_cons, List.take_zero, List.drop_succ_cons, List.drop_zero, List.set_cons_zero, List.set_cons_succ, true_or, or_true, and_self, Bool.false_eq_true, Nat.le_refl, Option.bind_some, Option.map_some, Option.getD_some, Option.isSome_some, List.map_cons, List.map_nil, List.cons_append, List.nil_append, List.append_nil, List.getElem?_cons_zero, List.getElem?_cons_succ, eq_self, Int.reduceLT, Int.reduceLE, Int.reduceNeg, Int.reduceEq, e4]
            refine sep_store s (by simp) fun h7 s => ?_
            have s := s.as (ds := [.int .i64 0, .int .i64 0]) (by simp [t_put])
            have gz := (s.pull 0 rfl).rdAll (n := 2) rfl
            simp (disch := omega) only [VW, VY, VZ, VA, VB, VC, VE, TY, ↓reduceIte, Nat.reduceEqDiff, Nat.reduceAdd, Nat.reduceMul, Nat.reduceSub, Nat.reduceLeDiff, List.length_cons, List.length_nil, List.length_append, List.append_assoc, List.take_succ_cons, List.take_zero, List.drop_succ_cons, List.drop_zero, List.set_cons_zero, List.set_cons_succ, true_or, or_true, and_self, Bool.false_eq_true, Nat.le_refl, Option.bind_some, Option.map_some, Option.getD_some, Option.isSome_some, List.map_cons, List.map_nil, List.cons_append, List.nil_append, List.append_nil, List.getElem?_cons_zero, List.getElem?_cons_succ, eq_self, Int.reduceLT, Int.reduceLE, Int.reduceNeg, Int.reduceEq, gz, e4]
            exact hQ _ s.ext
          | some d' =>
            have hst : addL (some ⟨0, 0⟩) (V.take (i + 1)) = some d' := by rw [addL_take hz, hd]; exact hac
            rw [show optV (some d') = .tuple #[.agg (dyC d').toArray, .bool true] from rfl]
            have u4 := u3.newBlk (dyC d') 39 true
            have gn := (u4.pull 0 rfl).rdAll (n := 2) rfl
            simp (disch := omega) only [VW, VY, VZ, VA, VB, VC, VE, TY, ↓reduceIte, Nat.reduceEqDiff, Nat.reduceAdd, Nat.reduceMul, Nat.reduceSub, Nat.reduceLeDiff, List.length_cons, List.length_nil, List.length_append, List.append_assoc, List.take_succ_cons, List.take_zero, List.drop_succ_cons, List.drop_zero, List.set_cons_zero, List.set_cons_succ, true_or, or_true, and_self, Bool.false_eq_true, Nat.le_refl, Option.bind_some, Option.map_some, Option.getD_some, Option.isSome_some, List.map_cons, List.map_nil, List.cons_append, List.nil_append, List.append_nil, List.getElem?_cons_zero, List.getElem?_cons_succ, eq_self, Int.reduceLT, Int.reduceLE, Int.reduceNeg, Int.reduceEq, gn, e10]
            refine sep_store (u4.pull 2 rfl) (by simp) fun h7 u7 => ?_
            have u7 := u7.as (ds := dyC d') (by simp [t_put])
            simp (disch := omega) only [VW, VY, VZ, VA, VB, VC, VE, TY, ↓reduceIte, Nat.reduceEqDiff, Nat.reduceAdd, Nat.reduceMul, Nat.reduceSub, Nat.reduceLeDiff, List.length_cons, List.length_nil, List.length_append, List.append_assoc, List.take_succ_cons, List.take_zero, List.drop_succ_cons, List.drop_zero, List.set_cons_zero, List.set_cons_succ, true_or, or_true, and_self, Bool.false_eq_true, Nat.le_refl, Option.bind_some, Option.map_some, Option.getD_some, Option.isSome_some, List.map_cons, List.map_nil, List.cons_append, List.nil_append, List.append_nil, List.getElem?_cons_zero, List.getElem?_cons_succ, eq_self, Int.reduceLT, Int.reduceLE, Int.reduceNeg, Int.reduceEq, e4, e10, e44, e45, e46, wrap_in]
            exact ⟨_, by omega, i + 1, d', by simp, by omega, rfl, hst, u7.swap.tail.swap.tail.swap.pull 1 rfl⟩
        · obtain rfl : i = V.length := by omega
          have q1 : ¬ (V.length : Int) < (V.length : Int) := by omega
          rw [List.take_length] at hd
          rw [hd, optV_eq] at hQ
          have gd := u.rdAll (n := 2) rfl
          simp (disch := omega) only [VW, VY, VZ, VA, VB, VC, VE, TY, ↓reduceIte, Nat.reduceEqDiff, Nat.reduceAdd, Nat.reduceMul, Nat.reduceSub, Nat.reduceLeDiff, List.length_cons, List.length_nil, List.length_append, List.append_assoc, List.take_succ_cons, List.take_zero, List.drop_succ_cons, List.drop_zero, List.set_cons_zero, List.set_cons_succ, true_or, or_true, and_self, Bool.false_eq_true, Nat.le_refl, Option.bind_some, Option.map_some, Option.getD_some, Option.isSome_some, List.map_cons, List.map_nil, List.cons_append, List.nil_append, List.append_nil, List.getElem?_cons_zero, List.getElem?_cons_succ, eq_self, Int.reduceLT, Int.reduceLE, Int.reduceNeg, Int.reduceEq, e10, q1, gd, e4]
          refine sep_store (u.pull 2 rfl) (by simp) fun h7 s => ?_
          have s := s.as (ds := dyC d) (by simp [t_put])
          have gz := (s.pull 0 rfl).rdAll (n := 2) rfl
          simp (disch := omega) only [VW, VY, VZ, VA, VB, VC, VE, TY, ↓reduceIte, Nat.reduceEqDiff, Nat.reduceAdd, Nat.reduceMul, Nat.reduceSub, Nat.reduceLeDiff, List.length_cons, List.length_nil, List.length_append, List.append_assoc, List.take_succ_cons, List.take_zero, List.drop_succ_cons, List.drop_zero, List.set_cons_zero, List.set_cons_succ, true_or, or_true, and_self, Bool.false_eq_true, Nat.le_refl, Option.bind_some, Option.map_some, Option.getD_some, Option.isSome_some, List.map_cons, List.map_nil, List.cons_append, List.nil_append, List.append_nil, List.getElem?_cons_zero, List.getElem?_cons_succ, eq_self, Int.reduceLT, Int.reduceLE, Int.reduceNeg, Int.reduceEq, gz, e4]
          exact hQ _ s.ext
end Go.Proofs

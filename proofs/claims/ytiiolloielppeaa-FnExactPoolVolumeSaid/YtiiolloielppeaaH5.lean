/- Contracts of functions, facts of types, or the plain law behind one statement (own work): H5. Conditions: those told in each theorem. -/
import Derived.Test.YtiiolloielppeaaH4
set_option linter.all false
set_option linter.unusedSimpArgs false
set_option linter.unusedVariables false
set_option maxRecDepth 4000
namespace Go.Proofs
open Go Go.V
structure Tkn where
  worker : Int
  box : Bx
  deriving DecidableEq, Inhabited
instance : Rep Tkn := Rep.iso (α := Int × Bx) fun x => (x.worker, x.box)
theorem Tkn.sz : Rep.sz Tkn = 4 := rfl
instance : Giv Tkn := Giv.iso (α := Int × Bx) (fun (x : Tkn) => (x.worker, x.box)) (⟨(-7000000000000000101), ⟨(-7000000000000000101), [(-7000000000000000101)], [(-7000000000000000101)]⟩⟩ : Tkn)
instance : Siz Tkn := ⟨fun x => Siz.siz x.worker + Siz.siz x.box⟩
theorem here_Tkn {h : Heap} {x : Tkn} {cs : List Value} (hr : Here h x cs) : ∃ v1 v2, cs = [.int .i64 x.worker, .int .i64 x.box.k, v1, v2] ∧ inI64 x.worker ∧ inI64 x.box.k ∧ Row h x.box.low v1 ∧ Row h x.box.high v2 := by
  have hrp : Here (α := Int × Bx) h (x.worker, x.box) _ := hr
  obtain ⟨c1, d1, rfl, q1, r1⟩ := here_pair hrp
  obtain ⟨rfl, f2⟩ := here_int q1
  have r1p : Here (α := Int × (List Int) × (List Int)) h (x.box.k, x.box.low, x.box.high) _ := r1
  obtain ⟨c3, d3, rfl, q3, r3⟩ := here_pair r1p
  obtain ⟨rfl, f4⟩ := here_int q3
  obtain ⟨c5, d5, rfl, q5, r5⟩ := here_pair r3
  obtain ⟨w6, rfl, f6⟩ := here_list q5
  obtain ⟨w7, rfl, f7⟩ := here_list r5
  exact ⟨w6, w7, rfl, f2, f4, f6, f7⟩
theorem giv_Tkn {h : Heap} {x : Tkn} {cs : List Value} (hr : GivH h x cs) : ∃ v1 v2, cs = [.int .i64 x.worker, .int .i64 x.box.k, v1, v2] ∧ inI64 x.worker ∧ inI64 x.box.k ∧ GivH h x.box.low [v1] ∧ GivH h x.box.high [v2] := by
  have hrp : GivH (α := Int × Bx) h (x.worker, x.box) _ := hr
  obtain ⟨c1, d1, rfl, q1, r1⟩ := giv_pair hrp
  obtain ⟨rfl, f2⟩ := giv_int q1
  have r1p : GivH (α := Int × (List Int) × (List Int)) h (x.box.k, x.box.low, x.box.high) _ := r1
  obtain ⟨c3, d3, rfl, q3, r3⟩ := giv_pair r1p
  obtain ⟨rfl, f4⟩ := giv_int q3
  obtain ⟨c5, d5, rfl, q5, r5⟩ := giv_pair r3
  obtain ⟨w6, rfl, f6⟩ := giv_list q5
  obtain ⟨w7, rfl, f7⟩ := giv_list r5
  exact ⟨w6, w7, rfl, f2, f4, f6, f7⟩
theorem mk_Tkn {h : Heap} {x : Tkn} {v1 v2 : Value} (h1 : inI64 x.worker) (h2 : inI64 x.box.k) (h3 : Row h x.box.low v1) (h4 : Row h x.box.high v2) : Here h x [.int .i64 x.worker, .int .i64 x.box.k, v1, v2] := (mk_pair (p := (x.worker, x.box)) (mk_int h1) (mk_pair (p := (x.box.k, (x.box.low, x.box.high))) (mk_int h2) (mk_pair (p := (x.box.low, x.box.high)) (mk_list h3) (mk_list h4))))
theorem mkg_Tkn {h : Heap} {x : Tkn} {v1 v2 : Value} (h1 : inI64 x.worker) (h2 : inI64 x.box.k) (h3 : GivH h x.box.low [v1]) (h4 : GivH h x.box.high [v2]) : GivH h x [.int .i64 x.worker, .int .i64 x.box.k, v1, v2] := (mkg_pair (p := (x.worker, x.box)) (mkg_int h1) (mkg_pair (p := (x.box.k, (x.box.low, x.box.high))) (mkg_int h2) (mkg_pair (p := (x.box.low, x.box.high)) h3 h4)))
theorem at_Tkn {h : Heap} {b off : Nat} {x : Tkn} (hp : At h b off x) : ∃ v1 v2, getC h b off = some (.int .i64 x.worker) ∧ getC h b (off + 1) = some (.int .i64 x.box.k) ∧ getC h b (off + 2) = some (v1) ∧ getC h b (off + 3) = some (v2) ∧ inI64 x.worker ∧ inI64 x.box.k ∧ Row h x.box.low v1 ∧ Row h x.box.high v2 ∧ cellsAt h b off 4 = some [.int .i64 x.worker, .int .i64 x.box.k, v1, v2] := by
  obtain ⟨cs, hc, hr⟩ := hp
  rw [Tkn.sz] at hc
  obtain ⟨w1, w2, rfl, f1, f2, f3, f4⟩ := here_Tkn hr
  exact ⟨w1, w2, cellsAt_getC hc 0 (by decide), cellsAt_getC hc 1 (by decide), cellsAt_getC hc 2 (by decide), cellsAt_getC hc 3 (by decide), f1, f2, f3, f4, hc⟩
theorem zero_Tkn (h : Heap) : Rep.rep h (⟨0, ⟨0, [], []⟩⟩ : Tkn) [.int .i64 0, .int .i64 0, .slice none 0 0, .slice none 0 0] [] := (rep_pair0 (p := ((0, ⟨0, [], []⟩) : (Int × Bx))) (rep_int (h := h) ⟨by decide, by decide⟩) (rep_pair0 (p := ((0, ([], [])) : (Int × ((List Int) × (List Int))))) (rep_int (h := h) ⟨by decide, by decide⟩) (rep_pair0 (p := (([], []) : ((List Int) × (List Int)))) (rep_nil (h := h)) (rep_nil (h := h)))))
def fill_Tkn : Tkn := ⟨(-7000000000000000101), ⟨(-7000000000000000101), [(-7000000000000000101)], [(-7000000000000000101)]⟩⟩
theorem fillerTaken_c {h : Heap} {Q : Value → Heap → Prop} (hQ : ∀ cs' h', Sep h h' [repA fill_Tkn cs'] → Q (.agg cs'.toArray) h') : CallsV Try.prog 100 [] h Q := by
  refine CallsV.start Try.func100 rfl (by rw [Try.results100]) (by kernel_rfl) (by rw [Try.ntmps100]; simp) ?_
  have s := Sep.blk1 h [.int .i64 0, .int .i64 0, .slice none 0 0, .slice none 0 0] 100 true
  simp (disch := omega) only [VW, VY, VZ, VA, VB, VC, VE, TY, ↓reduceIte, Nat.reduceEqDiff, Nat.reduceAdd, Nat.reduceMul, Nat.reduceSub, Nat.reduceLeDiff, List.length_cons, List.length_nil, List.length_append, List.append_assoc, List.take_succ_cons, List.take_zero, List.drop_succ_cons, List.drop_zero, List.set_cons_zero, List.set_cons_succ, true_or, or_true, and_self, Bool.false_eq_true, Nat.le_refl, Option.bind_some, Option.map_some, Option.getD_some, Option.isSome_some, List.map_cons, List.map_nil, List.cons_append, List.nil_append, List.append_nil, List.getElem?_cons_zero, List.getElem?_cons_succ, eq_self, Int.reduceLT, Int.reduceLE, Int.reduceNeg, Int.reduceEq]
  refine .inl ⟨by kernel_rfl, ?_⟩; refine fillerBox_c fun c0 h0 s0 => ?_
  have l0 : c0.length = 3 := s0.rlen
  have s := s.add s0
  simp (disch := omega) only [VW, VY, VZ, VA, VB, VC, VE, TY, ↓reduceIte, Nat.reduceEqDiff, Nat.reduceAdd, Nat.reduceMul, Nat.reduceSub, Nat.reduceLeDiff, List.length_cons, List.length_nil, List.length_append, List.append_assoc, List.take_succ_cons, List.take_zero, List.drop_succ_cons, List.drop_zero, List.set_cons_zero, List.set_cons_succ, true_or, or_true, and_self, Bool.false_eq_true, Nat.le_refl, Option.bind_some, Option.map_some, Option.getD_some, Option.isSome_some, List.map_cons, List.map_nil, List.cons_append, List.nil_append, List.append_nil, List.getElem?_cons_zero, List.getElem?_cons_succ, eq_self, Int.reduceLT, Int.reduceLE, Int.reduceNeg, Int.reduceEq, l0]
  refine sep_store (s.pull 1 rfl) (by simp [l0]) fun hz s => ?_
  have s := s.as (ds := [.int .i64 (-7000000000000000101)] ++ c0) (by simp [t_put, l0])
  have ga := s.rdAll (n := 4) (by simp [l0])
  simp (disch := omega) only [VW, VY, VZ, VA, VB, VC, VE, TY, ↓reduceIte, Nat.reduceEqDiff, Nat.reduceAdd, Nat.reduceMul, Nat.reduceSub, Nat.reduceLeDiff, List.length_cons, List.length_nil, List.length_append, List.append_assoc, List.take_succ_cons, List.take_zero, List.drop_succ_cons, List.drop_zero, List.set_cons_zero, List.set_cons_succ, true_or, or_true, and_self, Bool.false_eq_true, Nat.le_refl, Option.bind_some, Option.map_some, Option.getD_some, Option.isSome_some, List.map_cons, List.map_nil, List.cons_append, List.nil_append, List.append_nil, List.getElem?_cons_zero, List.getElem?_cons_succ, eq_self, Int.reduceLT, Int.reduceLE, Int.reduceNeg, Int.reduceEq, ga]
  have s := s.tail
  have s := Sep.pair (Sep.rep0 (x := ((-7000000000000000101) : Int)) s (rep_int ⟨by decide, by decide⟩))
  exact hQ _ _ s.head
theorem szTaken_c {x : Tkn} {cs : List Value} {left : Int} {h : Heap} {Q : Value → Heap → Prop} (hx : Here h x cs) (h0 : 0 ≤ left) (h1 : left ≤ 1000000)
    (hQ : ∀ h', Ext h h' → Q (.int .i64 (szR left (Siz.siz x))) h') : CallsV Try.prog 96 [.agg cs.toArray, .int .i64 left] h Q := by
  have hs : Siz.siz x = Siz.siz x.worker + Siz.siz x.box := rfl
  have zWorker : Siz.siz x.worker = 0 := rfl
  obtain ⟨v1, v2, rfl, vf1, vf2, vf3, vf4⟩ := here_Tkn hx
  refine CallsV.start Try.func96 rfl (by rw [Try.results96]) (by kernel_rfl) (by rw [Try.ntmps96]; simp) ?_
  have s := Sep.blk1 h [.int .i64 x.worker, .int .i64 x.box.k, v1, v2] 128 true
  simp (disch := omega) only [VW, VY, VZ, VA, VB, VC, VE, TY, ↓reduceIte, Nat.reduceEqDiff, Nat.reduceAdd, Nat.reduceMul, Nat.reduceSub, Nat.reduceLeDiff, List.length_cons, List.length_nil, List.length_append, List.append_assoc, List.take_succ_cons, List.take_zero, List.drop_succ_cons, List.drop_zero, List.set_cons_zero, List.set_cons_succ, true_or, or_true, and_self, Bool.false_eq_true, Nat.le_refl, Option.bind_some, Option.map_some, Option.getD_some, Option.isSome_some, List.map_cons, List.map_nil, List.cons_append, List.nil_append, List.append_nil, List.getElem?_cons_zero, List.getElem?_cons_succ, eq_self, Int.reduceLT, Int.reduceLE, Int.reduceNeg, Int.reduceEq]
  refine .inl ⟨by kernel_rfl, ?_⟩; refine szBox_c (mk_Bx vf2 (vf3.mono s.ext) (vf4.mono s.ext)) (by omega) (by omega) fun h1 E1 => ?_
  have s := s.mono E1
  have g := s.rd
  by_cases c1 : left < (Siz.siz x.box : Int)
  · rw [szR_lt c1]
    simp (disch := omega) only [VW, VY, VZ, VA, VB, VC, VE, TY, ↓reduceIte, Nat.reduceEqDiff, Nat.reduceAdd, Nat.reduceMul, Nat.reduceSub, Nat.reduceLeDiff, List.length_cons, List.length_nil, List.length_append, List.append_assoc, List.take_succ_cons, List.take_zero, List.drop_succ_cons, List.drop_zero, List.set_cons_zero, List.set_cons_succ, true_or, or_true, and_self, Bool.false_eq_true, Nat.le_refl, Option.bind_some, Option.map_some, Option.getD_some, Option.isSome_some, List.map_cons, List.map_nil, List.cons_append, List.nil_append, List.append_nil, List.getElem?_cons_zero, List.getElem?_cons_succ, eq_self, Int.reduceLT, Int.reduceLE, Int.reduceNeg, Int.reduceEq]
    rw [szR_lt (by omega)] at hQ
    exact hQ _ s.ext
  · rw [szR_ge c1]
    have c' : ¬ left - (Siz.siz x.box : Int) < 0 := by omega
    simp (disch := omega) only [VW, VY, VZ, VA, VB, VC, VE, TY, ↓reduceIte, Nat.reduceEqDiff, Nat.reduceAdd, Nat.reduceMul, Nat.reduceSub, Nat.reduceLeDiff, List.length_cons, List.length_nil, List.length_append, List.append_assoc, List.take_succ_cons, List.take_zero, List.drop_succ_cons, List.drop_zero, List.set_cons_zero, List.set_cons_succ, true_or, or_true, and_self, Bool.false_eq_true, Nat.le_refl, Option.bind_some, Option.map_some, Option.getD_some, Option.isSome_some, List.map_cons, List.map_nil, List.cons_append, List.nil_append, List.append_nil, List.getElem?_cons_zero, List.getElem?_cons_succ, eq_self, Int.reduceLT, Int.reduceLE, Int.reduceNeg, Int.reduceEq, c', g]
    rw [szR_ge (by omega)] at hQ
    have e : left - (Siz.siz x : Int) = left - (Siz.siz x.box : Int) := by omega
    rw [e] at hQ
    exact hQ _ s.ext
theorem toTaken_c {x : Tkn} {b : Bool} {cs : List Value} {h : Heap} {Q : Value → Heap → Prop} (hx : Here h x cs) (hn : Siz.siz x ≤ 1000000)
    (hQ : ∀ cs' h', Sep h h' [givA b x cs'] → Q (.agg cs'.toArray) h') : CallsV Try.prog 99 [.agg cs.toArray, .bool b] h Q := by
  have hs : Siz.siz x = Siz.siz x.worker + Siz.siz x.box := rfl
  obtain ⟨v1, v2, rfl, vf1, vf2, vf3, vf4⟩ := here_Tkn hx
  refine CallsV.start Try.func99 rfl (by rw [Try.results99]) (by kernel_rfl) (by rw [Try.ntmps99]; simp) ?_
  simp (disch := omega) only [VW, VY, VZ, VA, VB, VC, VE, TY, ↓reduceIte, Nat.reduceEqDiff, Nat.reduceAdd, Nat.reduceMul, Nat.reduceSub, Nat.reduceLeDiff, List.length_cons, List.length_nil, List.length_append, List.append_assoc, List.take_succ_cons, List.take_zero, List.drop_succ_cons, List.drop_zero, List.set_cons_zero, List.set_cons_succ, true_or, or_true, and_self, Bool.false_eq_true, Nat.le_refl, Option.bind_some, Option.map_some, Option.getD_some, Option.isSome_some, List.map_cons, List.map_nil, List.cons_append, List.nil_append, List.append_nil, List.getElem?_cons_zero, List.getElem?_cons_succ, eq_self, Int.reduceLT, Int.reduceLE, Int.reduceNeg, Int.reduceEq]
  have s := Sep.blk3 h [.int .i64 x.worker, .int .i64 x.box.k, v1, v2] [.int .i64 0, .int .i64 0, .slice none 0 0, .slice none 0 0] [.int .i64 x.worker, .int .i64 0, .slice none 0 0, .slice none 0 0] 128 100 100 true true true
  refine .inl ⟨by kernel_rfl, ?_⟩; refine toBox_c (b := b) (mk_Bx vf2 (vf3.mono s.ext) (vf4.mono s.ext)) (by omega) fun w1 h1 s1 => ?_
  have l1 : w1.length = 3 := s1.gpull
  have s := s.add s1
  simp (disch := omega) only [VW, VY, VZ, VA, VB, VC, VE, TY, ↓reduceIte, Nat.reduceEqDiff, Nat.reduceAdd, Nat.reduceMul, Nat.reduceSub, Nat.reduceLeDiff, List.length_cons, List.length_nil, List.length_append, List.append_assoc, List.take_succ_cons, List.take_zero, List.drop_succ_cons, List.drop_zero, List.set_cons_zero, List.set_cons_succ, true_or, or_true, and_self, Bool.false_eq_true, Nat.le_refl, Option.bind_some, Option.map_some, Option.getD_some, Option.isSome_some, List.map_cons, List.map_nil, List.cons_append, List.nil_append, List.append_nil, List.getElem?_cons_zero, List.getElem?_cons_succ, eq_self, Int.reduceLT, Int.reduceLE, Int.reduceNeg, Int.reduceEq, l1]
  refine sep_store (s.pull 1 rfl) (by simp [l1]) fun h1' s => ?_
  have s := s.as (ds := [.int .i64 x.worker] ++ w1) (by simp [t_put, l1])
  have g := (s.pull 3 rfl).rd
  have ga := s.rdAll (n := 4) (by simp [l1])
  simp (disch := omega) only [VW, VY, VZ, VA, VB, VC, VE, TY, ↓reduceIte, Nat.reduceEqDiff, Nat.reduceAdd, Nat.reduceMul, Nat.reduceSub, Nat.reduceLeDiff, List.length_cons, List.length_nil, List.length_append, List.append_assoc, List.take_succ_cons, List.take_zero, List.drop_succ_cons, List.drop_zero, List.set_cons_zero, List.set_cons_succ, true_or, or_true, and_self, Bool.false_eq_true, Nat.le_refl, Option.bind_some, Option.map_some, Option.getD_some, Option.isSome_some, List.map_cons, List.map_nil, List.cons_append, List.nil_append, List.append_nil, List.getElem?_cons_zero, List.getElem?_cons_succ, eq_self, Int.reduceLT, Int.reduceLE, Int.reduceNeg, Int.reduceEq, ga, l1]
  refine sep_store (s.pull 2 rfl) (by simp [l1]) fun hz s => ?_
  have s := s.as (ds := [.int .i64 x.worker] ++ w1) (by simp [t_put, l1])
  have ga := s.rdAll (n := 4) (by simp [l1])
  simp (disch := omega) only [VW, VY, VZ, VA, VB, VC, VE, TY, ↓reduceIte, Nat.reduceEqDiff, Nat.reduceAdd, Nat.reduceMul, Nat.reduceSub, Nat.reduceLeDiff, List.length_cons, List.length_nil, List.length_append, List.append_assoc, List.take_succ_cons, List.take_zero, List.drop_succ_cons, List.drop_zero, List.set_cons_zero, List.set_cons_succ, true_or, or_true, and_self, Bool.false_eq_true, Nat.le_refl, Option.bind_some, Option.map_some, Option.getD_some, Option.isSome_some, List.map_cons, List.map_nil, List.cons_append, List.nil_append, List.append_nil, List.getElem?_cons_zero, List.getElem?_cons_succ, eq_self, Int.reduceLT, Int.reduceLE, Int.reduceNeg, Int.reduceEq, ga]
  have s := s.tail.tail
  have s := Sep.gpair (Sep.flat (x := givA b x.worker _) s (rep_int vf1))
  exact hQ _ _ s.head
theorem eqTaken_c {x y : Tkn} {cs ds : List Value} {h : Heap} {Q : Value → Heap → Prop} (hx : Here h x cs) (hy : Here h y ds)
    (hQ : ∀ h', Ext h h' → Q (.bool (decide (x = y))) h') : CallsV Try.prog 122 [.agg cs.toArray, .agg ds.toArray] h Q := by
  obtain ⟨v1, v2, rfl, vf1, vf2, vf3, vf4⟩ := here_Tkn hx
  obtain ⟨u1, u2, rfl, uf1, uf2, uf3, uf4⟩ := here_Tkn hy
  refine CallsV.start Try.func122 rfl (by rw [Try.results122]) (by kernel_rfl) (by rw [Try.ntmps122]; simp) ?_
  have s := Sep.blk2 h [.int .i64 x.worker, .int .i64 x.box.k, v1, v2] [.int .i64 y.worker, .int .i64 y.box.k, u1, u2] 100 100 true true
  have he : (x = y) ↔ (x.worker = y.worker ∧ x.box = y.box) := by cases x; cases y; simp
  simp (disch := omega) only [VW, VY, VZ, VA, VB, VC, VE, TY, ↓reduceIte, Nat.reduceEqDiff, Nat.reduceAdd, Nat.reduceMul, Nat.reduceSub, Nat.reduceLeDiff, List.length_cons, List.length_nil, List.length_append, List.append_assoc, List.take_succ_cons, List.take_zero, List.drop_succ_cons, List.drop_zero, List.set_cons_zero, List.set_cons_succ, true_or, or_true, and_self, Bool.false_eq_true, Nat.le_refl, Option.bind_some, Option.map_some, Option.getD_some, Option.isSome_some, List.map_cons, List.map_nil, List.cons_append, List.nil_append, List.append_nil, List.getElem?_cons_zero, List.getElem?_cons_succ, eq_self, Int.reduceLT, Int.reduceLE, Int.reduceNeg, Int.reduceEq]
  by_cases c1 : ¬ x.worker = y.worker
  · simp (disch := omega) only [VW, VY, VZ, VA, VB, VC, VE, TY, ↓reduceIte, Nat.reduceEqDiff, Nat.reduceAdd, Nat.reduceMul, Nat.reduceSub, Nat.reduceLeDiff, List.length_cons, List.length_nil, List.length_append, List.append_assoc, List.take_succ_cons, List.take_zero, List.drop_succ_cons, List.drop_zero, List.set_cons_zero, List.set_cons_succ, true_or, or_true, and_self, Bool.false_eq_true, Nat.le_refl, Option.bind_some, Option.map_some, Option.getD_some, Option.isSome_some, List.map_cons, List.map_nil, List.cons_append, List.nil_append, List.append_nil, List.getElem?_cons_zero, List.getElem?_cons_succ, eq_self, Int.reduceLT, Int.reduceLE, Int.reduceNeg, Int.reduceEq, c1]
    simpa [he, c1] using hQ _ s.ext
  have c1 := Decidable.not_not.1 c1
  have d1 := decide_eq_true c1
  simp (disch := omega) only [VW, VY, VZ, VA, VB, VC, VE, TY, ↓reduceIte, Nat.reduceEqDiff, Nat.reduceAdd, Nat.reduceMul, Nat.reduceSub, Nat.reduceLeDiff, List.length_cons, List.length_nil, List.length_append, List.append_assoc, List.take_succ_cons, List.take_zero, List.drop_succ_cons, List.drop_zero, List.set_cons_zero, List.set_cons_succ, true_or, or_true, and_self, Bool.false_eq_true, Nat.le_refl, Option.bind_some, Option.map_some, Option.getD_some, Option.isSome_some, List.map_cons, List.map_nil, List.cons_append, List.nil_append, List.append_nil, List.getElem?_cons_zero, List.getElem?_cons_succ, eq_self, Int.reduceLT, Int.reduceLE, Int.reduceNeg, Int.reduceEq, d1]
  refine .inl ⟨by kernel_rfl, ?_⟩; refine eqBox_c (mk_Bx vf2 (vf3.mono s.ext) (vf4.mono s.ext)) (mk_Bx uf2 (uf3.mono s.ext) (uf4.mono s.ext)) fun h2 E2 => ?_
  have s := s.mono E2
  have g1 := s.rd
  have g2 := s.tail.rd
  by_cases c2 : ¬ x.box = y.box
  · simp (disch := omega) only [VW, VY, VZ, VA, VB, VC, VE, TY, ↓reduceIte, Nat.reduceEqDiff, Nat.reduceAdd, Nat.reduceMul, Nat.reduceSub, Nat.reduceLeDiff, List.length_cons, List.length_nil, List.length_append, List.append_assoc, List.take_succ_cons, List.take_zero, List.drop_succ_cons, List.drop_zero, List.set_cons_zero, List.set_cons_succ, true_or, or_true, and_self, Bool.false_eq_true, Nat.le_refl, Option.bind_some, Option.map_some, Option.getD_some, Option.isSome_some, List.map_cons, List.map_nil, List.cons_append, List.nil_append, List.append_nil, List.getElem?_cons_zero, List.getElem?_cons_succ, eq_self, Int.reduceLT, Int.reduceLE, Int.reduceNeg, Int.reduceEq, c2]
    simpa [he, c1, c2] using hQ _ s.ext
  have c2 := Decidable.not_not.1 c2
  have d2 := decide_eq_true c2
  simp (disch := omega) only [VW, VY, VZ, VA, VB, VC, VE, TY, ↓reduceIte, Nat.reduceEqDiff, Nat.reduceAdd, Nat.reduceMul, Nat.reduceSub, Nat.reduceLeDiff, List.length_cons, List.length_nil, List.length_append, List.append_assoc, List.take_succ_cons, List.take_zero, List.drop_succ_cons, List.drop_zero, List.set_cons_zero, List.set_cons_succ, true_or, or_true, and_self, Bool.false_eq_true, Nat.le_refl, Option.bind_some, Option.map_some, Option.getD_some, Option.isSome_some, List.map_cons, List.map_nil, List.cons_append, List.nil_append, List.append_nil, List.getElem?_cons_zero, List.getElem?_cons_succ, eq_self, Int.reduceLT, Int.reduceLE, Int.reduceNeg, Int.reduceEq, d2, g1, g2]
  simpa [he, c1, c2] using hQ _ s.ext
theorem intactTaken_c {x : Tkn} {cs ds : List Value} {h : Heap} {Q : Value → Heap → Prop} (hx : GivH h x cs) (hy : GivH h x ds) (hn : Siz.siz x ≤ 1000000)
    (hQ : ∀ h', Ext h h' → Q (.bool true) h') : CallsV Try.prog 102 [.agg cs.toArray, .agg ds.toArray] h Q := by
  have hs : Siz.siz x = Siz.siz x.worker + Siz.siz x.box := rfl
  obtain ⟨v1, v2, rfl, vf1, vf2, vf3, vf4⟩ := giv_Tkn hx
  obtain ⟨u1, u2, rfl, uf1, uf2, uf3, uf4⟩ := giv_Tkn hy
  refine CallsV.start Try.func102 rfl (by rw [Try.results102]) (by kernel_rfl) (by rw [Try.ntmps102]; simp) ?_
  have s := Sep.blk2 h [.int .i64 x.worker, .int .i64 x.box.k, v1, v2] [.int .i64 x.worker, .int .i64 x.box.k, u1, u2] 100 100 true true
  simp (disch := omega) only [VW, VY, VZ, VA, VB, VC, VE, TY, ↓reduceIte, Nat.reduceEqDiff, Nat.reduceAdd, Nat.reduceMul, Nat.reduceSub, Nat.reduceLeDiff, List.length_cons, List.length_nil, List.length_append, List.append_assoc, List.take_succ_cons, List.take_zero, List.drop_succ_cons, List.drop_zero, List.set_cons_zero, List.set_cons_succ, true_or, or_true, and_self, Bool.false_eq_true, Nat.le_refl, Option.bind_some, Option.map_some, Option.getD_some, Option.isSome_some, List.map_cons, List.map_nil, List.cons_append, List.nil_append, List.append_nil, List.getElem?_cons_zero, List.getElem?_cons_succ, eq_self, Int.reduceLT, Int.reduceLE, Int.reduceNeg, Int.reduceEq]
  refine .inl ⟨by kernel_rfl, ?_⟩; refine intactBox_c (mkg_Bx vf2 (vf3.mono s.ext) (vf4.mono s.ext)) (mkg_Bx uf2 (uf3.mono s.ext) (uf4.mono s.ext)) (by omega) fun h2 E2 => ?_
  have s := s.mono E2
  have g1 := s.rd
  have g2 := s.tail.rd
  simp (disch := omega) only [VW, VY, VZ, VA, VB, VC, VE, TY, ↓reduceIte, Nat.reduceEqDiff, Nat.reduceAdd, Nat.reduceMul, Nat.reduceSub, Nat.reduceLeDiff, List.length_cons, List.length_nil, List.length_append, List.append_assoc, List.take_succ_cons, List.take_zero, List.drop_succ_cons, List.drop_zero, List.set_cons_zero, List.set_cons_succ, true_or, or_true, and_self, Bool.false_eq_true, Nat.le_refl, Option.bind_some, Option.map_some, Option.getD_some, Option.isSome_some, List.map_cons, List.map_nil, List.cons_append, List.nil_append, List.append_nil, List.getElem?_cons_zero, List.getElem?_cons_succ, eq_self, Int.reduceLT, Int.reduceLE, Int.reduceNeg, Int.reduceEq, g1, g2]
  exact hQ _ s.ext
theorem szTakenS_c {l : List Tkn} {left : Int} {v : Value} {h : Heap} {Q : Value → Heap → Prop} (hl : Row h l v) (h0 : 0 ≤ left) (h1 : left ≤ 1000000)
    (hQ : ∀ h', Ext h h' → Q (.int .i64 (szR left (Siz.siz l))) h') : CallsV Try.prog 59 [v, .int .i64 left] h Q := by
  refine CallsV.start Try.func59 rfl (by rw [Try.results59]) (by kernel_rfl) (by rw [Try.ntmps59]; simp) ?_
  have hle := hl.le
  have hs := siz_list l
  simp (disch := omega) only [VW, VY, VZ, VA, VB, VC, VE, TY, ↓reduceIte, Nat.reduceEqDiff, Nat.reduceAdd, Nat.reduceMul, Nat.reduceSub, Nat.reduceLeDiff, List.length_cons, List.length_nil, List.length_append, List.append_assoc, List.take_succ_cons, List.take_zero, List.drop_succ_cons, List.drop_zero, List.set_cons_zero, List.set_cons_succ, true_or, or_true, and_self, Bool.false_eq_true, Nat.le_refl, Option.bind_some, Option.map_some, Option.getD_some, Option.isSome_some, List.map_cons, List.map_nil, List.cons_append, List.nil_append, List.append_nil, List.getElem?_cons_zero, List.getElem?_cons_succ, eq_self, Int.reduceLT, Int.reduceLE, Int.reduceNeg, Int.reduceEq, hl.isRow.len, wrap_in]
  by_cases c : left < (l.length : Int)
  · have c' : left - (l.length : Int) < 0 := by omega
    simp (disch := omega) only [VW, VY, VZ, VA, VB, VC, VE, TY, ↓reduceIte, Nat.reduceEqDiff, Nat.reduceAdd, Nat.reduceMul, Nat.reduceSub, Nat.reduceLeDiff, List.length_cons, List.length_nil, List.length_append, List.append_assoc, List.take_succ_cons, List.take_zero, List.drop_succ_cons, List.drop_zero, List.set_cons_zero, List.set_cons_succ, true_or, or_true, and_self, Bool.false_eq_true, Nat.le_refl, Option.bind_some, Option.map_some, Option.getD_some, Option.isSome_some, List.map_cons, List.map_nil, List.cons_append, List.nil_append, List.append_nil, List.getElem?_cons_zero, List.getElem?_cons_succ, eq_self, Int.reduceLT, Int.reduceLE, Int.reduceNeg, Int.reduceEq, c']
    rw [szR_lt (by omega)] at hQ
    exact hQ _ (.refl _)
  · have c' : ¬ left - (l.length : Int) < 0 := by omega
    simp (disch := omega) only [VW, VY, VZ, VA, VB, VC, VE, TY, ↓reduceIte, Nat.reduceEqDiff, Nat.reduceAdd, Nat.reduceMul, Nat.reduceSub, Nat.reduceLeDiff, List.length_cons, List.length_nil, List.length_append, List.append_assoc, List.take_succ_cons, List.take_zero, List.drop_succ_cons, List.drop_zero, List.set_cons_zero, List.set_cons_succ, true_or, or_true, and_self, Bool.false_eq_true, Nat.le_refl, Option.bind_some, Option.map_some, Option.getD_some, Option.isSome_some, List.map_cons, List.map_nil, List.cons_append, List.nil_append, List.append_nil, List.getElem?_cons_zero, List.getElem?_cons_succ, eq_self, Int.reduceLT, Int.reduceLE, Int.reduceNeg, Int.reduceEq, c']
    refine loop_rule (fun n e h' => ∃ (i : Nat), e 0 = v ∧ e 5 = .int .i64 i ∧ e 1 = .int .i64 (left - (l.length : Int) - (((l.take i).map Siz.siz).sum : Nat)) ∧ (((l.take i).map Siz.siz).sum : Nat) ≤ left - (l.length : Int) ∧ i ≤ l.length ∧ n = l.length - i ∧ Ext h h') ?_ l.length _ _ ⟨0, rfl, rfl, by simp [upd], by simp; omega, Nat.zero_le _, rfl, .refl _⟩
    rintro n e h1 ⟨i, e0, ei, el, hle2, hi, rfl, E1⟩
    simp (disch := omega) only [VW, VY, VZ, VA, VB, VC, VE, TY, ↓reduceIte, Nat.reduceEqDiff, Nat.reduceAdd, Nat.reduceMul, Nat.reduceSub, Nat.reduceLeDiff, List.length_cons, List.length_nil, List.length_append, List.append_assoc, List.take_succ_cons, List.take_zero, List.drop_succ_cons, List.drop_zero, List.set_cons_zero, List.set_cons_succ, true_or, or_true, and_self, Bool.false_eq_true, Nat.le_refl, Option.bind_some, Option.map_some, Option.getD_some, Option.isSome_some, List.map_cons, List.map_nil, List.cons_append, List.nil_append, List.append_nil, List.getElem?_cons_zero, List.getElem?_cons_succ, eq_self, Int.reduceLT, Int.reduceLE, Int.reduceNeg, Int.reduceEq, e0, ei, hl.isRow.len]
    by_cases hlt : i < l.length
    · obtain ⟨x, hx⟩ := get_some hlt
      have c1 : (i : Int) < (l.length : Int) := by omega
      have st := siz_take hx
      have sl := siz_take_le l (i + 1)
      obtain ⟨_, x3, x4⟩ := Row.at (hl.mono E1) hx
      rw [Tkn.sz] at x3
      simp (disch := omega) only [VW, VY, VZ, VA, VB, VC, VE, TY, ↓reduceIte, Nat.reduceEqDiff, Nat.reduceAdd, Nat.reduceMul, Nat.reduceSub, Nat.reduceLeDiff, List.length_cons, List.length_nil, List.length_append, List.append_assoc, List.take_succ_cons, List.take_zero, List.drop_succ_cons, List.drop_zero, List.set_cons_zero, List.set_cons_succ, true_or, or_true, and_self, Bool.false_eq_true, Nat.le_refl, Option.bind_some, Option.map_some, Option.getD_some, Option.isSome_some, List.map_cons, List.map_nil, List.cons_append, List.nil_append, List.append_nil, List.getElem?_cons_zero, List.getElem?_cons_succ, eq_self, Int.reduceLT, Int.reduceLE, Int.reduceNeg, Int.reduceEq, e0, ei, el, c1, hl.isRow.ix, x3]
      refine .inl ⟨by kernel_rfl, ?_⟩; refine szTaken_c x4 (by omega) (by omega) fun h2 E2 => ?_
      by_cases c2 : left - (l.length : Int) - (((l.take i).map Siz.siz).sum : Nat) < (Siz.siz x : Int)
      · rw [szR_lt c2]
        simp (disch := omega) only [VW, VY, VZ, VA, VB, VC, VE, TY, ↓reduceIte, Nat.reduceEqDiff, Nat.reduceAdd, Nat.reduceMul, Nat.reduceSub, Nat.reduceLeDiff, List.length_cons, List.length_nil, List.length_append, List.append_assoc, List.take_succ_cons, List.take_zero, List.drop_succ_cons, List.drop_zero, List.set_cons_zero, List.set_cons_succ, true_or, or_true, and_self, Bool.false_eq_true, Nat.le_refl, Option.bind_some, Option.map_some, Option.getD_some, Option.isSome_some, List.map_cons, List.map_nil, List.cons_append, List.nil_append, List.append_nil, List.getElem?_cons_zero, List.getElem?_cons_succ, eq_self, Int.reduceLT, Int.reduceLE, Int.reduceNeg, Int.reduceEq]
        rw [szR_lt (by omega)] at hQ
        exact hQ _ (E1.trans E2)
      · rw [szR_ge c2]
        have c3 : ¬ left - (l.length : Int) - (((l.take i).map Siz.siz).sum : Nat) - (Siz.siz x : Int) < 0 := by omega
        simp (disch := omega) only [VW, VY, VZ, VA, VB, VC, VE, TY, ↓reduceIte, Nat.reduceEqDiff, Nat.reduceAdd, Nat.reduceMul, Nat.reduceSub, Nat.reduceLeDiff, List.length_cons, List.length_nil, List.length_append, List.append_assoc, List.take_succ_cons, List.take_zero, List.drop_succ_cons, List.drop_zero, List.set_cons_zero, List.set_cons_succ, true_or, or_true, and_self, Bool.false_eq_true, Nat.le_refl, Option.bind_some, Option.map_some, Option.getD_some, Option.isSome_some, List.map_cons, List.map_nil, List.cons_append, List.nil_append, List.append_nil, List.getElem?_cons_zero, List.getElem?_cons_succ, eq_self, Int.reduceLT, Int.reduceLE, Int.reduceNeg, Int.reduceEq, c3, e0, ei, wrap_in]
        exact ⟨_, by omega, i + 1, by simp, by congr 1; omega, by omega, by omega, rfl, E1.trans E2⟩
    · obtain rfl : i = l.length := by omega
      have c1 : ¬ (l.length : Int) < (l.length : Int) := by omega
      rw [List.take_length] at hle2 el
      simp (disch := omega) only [VW, VY, VZ, VA, VB, VC, VE, TY, ↓reduceIte, Nat.reduceEqDiff, Nat.reduceAdd, Nat.reduceMul, Nat.reduceSub, Nat.reduceLeDiff, List.length_cons, List.length_nil, List.length_append, List.append_assoc, List.take_succ_cons, List.take_zero, List.drop_succ_cons, List.drop_zero, List.set_cons_zero, List.set_cons_succ, true_or, or_true, and_self, Bool.false_eq_true, Nat.le_refl, Option.bind_some, Option.map_some, Option.getD_some, Option.isSome_some, List.map_cons, List.map_nil, List.cons_append, List.nil_append, List.append_nil, List.getElem?_cons_zero, List.getElem?_cons_succ, eq_self, Int.reduceLT, Int.reduceLE, Int.reduceNeg, Int.reduceEq, e0, ei, el, c1]
      rw [szR_ge (by omega)] at hQ
      have e2 : left - (Siz.siz l : Int) = left - (l.length : Int) - ((l.map Siz.siz).sum : Nat) := by omega
      rw [e2] at hQ
      exact hQ _ E1
theorem toTakenS_c {l : List Tkn} {b : Bool} {a : Value} {h : Heap} {Q : Value → Heap → Prop} (hl : Row h l a) (hn : Siz.siz l ≤ 1000000)
    (hQ : ∀ v h', Sep h h' [givA b l [v]] → Q v h') : CallsV Try.prog 63 [a, .bool b] h Q := by
  refine CallsV.start Try.func63 rfl (by rw [Try.results63]) (by kernel_rfl) (by rw [Try.ntmps63]; simp) ?_
  have hs := siz_list l
  have hm : ∀ {i : Nat} {x : Tkn}, l[i]? = some x → Siz.siz x ≤ 1000000 := fun hx => by have := siz_mem hx; omega
  have hroom := roomM_le l.length
  by_cases hb : b = true ∧ l = []
  · obtain ⟨rfl, rfl⟩ := hb
    simp (disch := omega) only [VW, VY, VZ, VA, VB, VC, VE, TY, ↓reduceIte, Nat.reduceEqDiff, Nat.reduceAdd, Nat.reduceMul, Nat.reduceSub, Nat.reduceLeDiff, List.length_cons, List.length_nil, List.length_append, List.append_assoc, List.take_succ_cons, List.take_zero, List.drop_succ_cons, List.drop_zero, List.set_cons_zero, List.set_cons_succ, true_or, or_true, and_self, Bool.false_eq_true, Nat.le_refl, Option.bind_some, Option.map_some, Option.getD_some, Option.isSome_some, List.map_cons, List.map_nil, List.cons_append, List.nil_append, List.append_nil, List.getElem?_cons_zero, List.getElem?_cons_succ, eq_self, Int.reduceLT, Int.reduceLE, Int.reduceNeg, Int.reduceEq, hl.isRow.len]
    exact hQ _ _ (Sep.givNil (.refl _))
  have hne : b = true → ¬ (l.length : Int) = 0 := fun hb1 => by have : l ≠ [] := fun e => hb ⟨hb1, e⟩; have := List.length_pos_iff.2 this; omega
  cases b
  case' false => simp (disch := omega) only [VW, VY, VZ, VA, VB, VC, VE, TY, ↓reduceIte, Nat.reduceEqDiff, Nat.reduceAdd, Nat.reduceMul, Nat.reduceSub, Nat.reduceLeDiff, List.length_cons, List.length_nil, List.length_append, List.append_assoc, List.take_succ_cons, List.take_zero, List.drop_succ_cons, List.drop_zero, List.set_cons_zero, List.set_cons_succ, true_or, or_true, and_self, Bool.false_eq_true, Nat.le_refl, Option.bind_some, Option.map_some, Option.getD_some, Option.isSome_some, List.map_cons, List.map_nil, List.cons_append, List.nil_append, List.append_nil, List.getElem?_cons_zero, List.getElem?_cons_succ, eq_self, Int.reduceLT, Int.reduceLE, Int.reduceNeg, Int.reduceEq, hl.isRow.len]
  case' true => simp (disch := omega) only [VW, VY, VZ, VA, VB, VC, VE, TY, ↓reduceIte, Nat.reduceEqDiff, Nat.reduceAdd, Nat.reduceMul, Nat.reduceSub, Nat.reduceLeDiff, List.length_cons, List.length_nil, List.length_append, List.append_assoc, List.take_succ_cons, List.take_zero, List.drop_succ_cons, List.drop_zero, List.set_cons_zero, List.set_cons_succ, true_or, or_true, and_self, Bool.false_eq_true, Nat.le_refl, Option.bind_some, Option.map_some, Option.getD_some, Option.isSome_some, List.map_cons, List.map_nil, List.cons_append, List.nil_append, List.append_nil, List.getElem?_cons_zero, List.getElem?_cons_succ, eq_self, Int.reduceLT, Int.reduceLE, Int.reduceNeg, Int.reduceEq, hl.isRow.len, hne rfl]
  case false =>
    refine .inl ⟨by kernel_rfl, roomBehind_c (by omega) ?_⟩
    simp (disch := omega) only [VW, VY, VZ, VA, VB, VC, VE, TY, ↓reduceIte, Nat.reduceEqDiff, Nat.reduceAdd, Nat.reduceMul, Nat.reduceSub, Nat.reduceLeDiff, List.length_cons, List.length_nil, List.length_append, List.append_assoc, List.take_succ_cons, List.take_zero, List.drop_succ_cons, List.drop_zero, List.set_cons_zero, List.set_cons_succ, true_or, or_true, and_self, Bool.false_eq_true, Nat.le_refl, Option.bind_some, Option.map_some, Option.getD_some, Option.isSome_some, List.map_cons, List.map_nil, List.cons_append, List.nil_append, List.append_nil, List.getElem?_cons_zero, List.getElem?_cons_succ, eq_self, Int.reduceLT, Int.reduceLE, Int.reduceNeg, Int.reduceEq, wrap_in]
    rw [← Int.natCast_add]
    refine sep_make (α := (Gd false Tkn)) ⟨false, ⟨0, ⟨0, [], []⟩⟩⟩ (Sep.nil (.refl h)) te58 tk100 (fun h => zero_Tkn h) (by decide) (by simp only []; omega) fun vf h0 s hcap hnv => ?_
    simp (disch := omega) only [VW, VY, VZ, VA, VB, VC, VE, TY, ↓reduceIte, Nat.reduceEqDiff, Nat.reduceAdd, Nat.reduceMul, Nat.reduceSub, Nat.reduceLeDiff, List.length_cons, List.length_nil, List.length_append, List.append_assoc, List.take_succ_cons, List.take_zero, List.drop_succ_cons, List.drop_zero, List.set_cons_zero, List.set_cons_succ, true_or, or_true, and_self, Bool.false_eq_true, Nat.le_refl, Option.bind_some, Option.map_some, Option.getD_some, Option.isSome_some, List.map_cons, List.map_nil, List.cons_append, List.nil_append, List.append_nil, List.getElem?_cons_zero, List.getElem?_cons_succ, eq_self, Int.reduceLT, Int.reduceLE, Int.reduceNeg, Int.reduceEq]
    refine loop_rule (fun n e h' => ∃ (i : Nat), e 0 = a ∧ e 1 = .bool false ∧ e 5 = vf ∧ e 6 = .int .i64 i ∧ i ≤ l.length ∧ n = l.length - i ∧ Sep h h' [ownA (α := (Gd false Tkn)) 100 ((l.take i).map (fun x => (⟨true, x⟩ : (Gd false Tkn))) ++ List.replicate (l.length + roomM l.length - i) (⟨false, ⟨0, ⟨0, [], []⟩⟩⟩ : (Gd false Tkn))) vf]) ?_ l.length _ _ ⟨0, rfl, rfl, rfl, rfl, Nat.zero_le _, rfl, by simpa using s⟩
    rintro n e h1 ⟨i, e0, e1, eo, ei, hi, rfl, s⟩
    have E1 := s.ext
    have hlen : ((l.take i).map (fun x => (⟨true, x⟩ : (Gd false Tkn))) ++ List.replicate (l.length + roomM l.length - i) (⟨false, ⟨0, ⟨0, [], []⟩⟩⟩ : (Gd false Tkn))).length = l.length + roomM l.length := by simp; omega
    simp (disch := omega) only [VW, VY, VZ, VA, VB, VC, VE, TY, ↓reduceIte, Nat.reduceEqDiff, Nat.reduceAdd, Nat.reduceMul, Nat.reduceSub, Nat.reduceLeDiff, List.length_cons, List.length_nil, List.length_append, List.append_assoc, List.take_succ_cons, List.take_zero, List.drop_succ_cons, List.drop_zero, List.set_cons_zero, List.set_cons_succ, true_or, or_true, and_self, Bool.false_eq_true, Nat.le_refl, Option.bind_some, Option.map_some, Option.getD_some, Option.isSome_some, List.map_cons, List.map_nil, List.cons_append, List.nil_append, List.append_nil, List.getElem?_cons_zero, List.getElem?_cons_succ, eq_self, Int.reduceLT, Int.reduceLE, Int.reduceNeg, Int.reduceEq, e0, eo, ei, hl.isRow.len]
    by_cases hlt : i < l.length
    · obtain ⟨x, hx⟩ := get_some hlt
      have c1 : (i : Int) < (l.length : Int) := by omega
      obtain ⟨_, x3, x4⟩ := Row.at (hl.mono E1) hx
      rw [Tkn.sz] at x3
      simp (disch := omega) only [VW, VY, VZ, VA, VB, VC, VE, TY, ↓reduceIte, Nat.reduceEqDiff, Nat.reduceAdd, Nat.reduceMul, Nat.reduceSub, Nat.reduceLeDiff, List.length_cons, List.length_nil, List.length_append, List.append_assoc, List.take_succ_cons, List.take_zero, List.drop_succ_cons, List.drop_zero, List.set_cons_zero, List.set_cons_succ, true_or, or_true, and_self, Bool.false_eq_true, Nat.le_refl, Option.bind_some, Option.map_some, Option.getD_some, Option.isSome_some, List.map_cons, List.map_nil, List.cons_append, List.nil_append, List.append_nil, List.getElem?_cons_zero, List.getElem?_cons_succ, eq_self, Int.reduceLT, Int.reduceLE, Int.reduceNeg, Int.reduceEq, e0, e1, eo, ei, c1, hl.isRow.ix, x3]
      refine .inl ⟨by kernel_rfl, ?_⟩; refine toTaken_c (b := false) x4 (hm hx) fun cs2 h2 s2 => ?_
      have hk := s2.gpull
      rw [Tkn.sz] at hk
      have s := s.add s2
      have ix := s.tail.row.isRow.ix Try.prog
      rw [hlen] at ix
      simp (disch := omega) only [VW, VY, VZ, VA, VB, VC, VE, TY, ↓reduceIte, Nat.reduceEqDiff, Nat.reduceAdd, Nat.reduceMul, Nat.reduceSub, Nat.reduceLeDiff, List.length_cons, List.length_nil, List.length_append, List.append_assoc, List.take_succ_cons, List.take_zero, List.drop_succ_cons, List.drop_zero, List.set_cons_zero, List.set_cons_succ, true_or, or_true, and_self, Bool.false_eq_true, Nat.le_refl, Option.bind_some, Option.map_some, Option.getD_some, Option.isSome_some, List.map_cons, List.map_nil, List.cons_append, List.nil_append, List.append_nil, List.getElem?_cons_zero, List.getElem?_cons_succ, eq_self, Int.reduceLT, Int.reduceLE, Int.reduceNeg, Int.reduceEq, e0, e1, eo, ei, ix, hk]
      refine sep_set (α := (Gd false Tkn)) (i := i) (y := ⟨true, x⟩) (Sep.swap (Sep.gGd s)) (by omega) fun h3 s => ?_
      simp (disch := omega) only [VW, VY, VZ, VA, VB, VC, VE, TY, ↓reduceIte, Nat.reduceEqDiff, Nat.reduceAdd, Nat.reduceMul, Nat.reduceSub, Nat.reduceLeDiff, List.length_cons, List.length_nil, List.length_append, List.append_assoc, List.take_succ_cons, List.take_zero, List.drop_succ_cons, List.drop_zero, List.set_cons_zero, List.set_cons_succ, true_or, or_true, and_self, Bool.false_eq_true, Nat.le_refl, Option.bind_some, Option.map_some, Option.getD_some, Option.isSome_some, List.map_cons, List.map_nil, List.cons_append, List.nil_append, List.append_nil, List.getElem?_cons_zero, List.getElem?_cons_succ, eq_self, Int.reduceLT, Int.reduceLE, Int.reduceNeg, Int.reduceEq, e0, e1, eo, ei, wrap_in]
      rw [show l.length + roomM l.length - i = (l.length + roomM l.length - (i + 1)) + 1 by omega, gd_one hx] at s
      exact ⟨_, by omega, i + 1, by simp, by omega, rfl, s⟩
    · obtain rfl : i = l.length := by omega
      have c1 : ¬ (l.length : Int) < (l.length : Int) := by omega
      simp (disch := omega) only [VW, VY, VZ, VA, VB, VC, VE, TY, ↓reduceIte, Nat.reduceEqDiff, Nat.reduceAdd, Nat.reduceMul, Nat.reduceSub, Nat.reduceLeDiff, List.length_cons, List.length_nil, List.length_append, List.append_assoc, List.take_succ_cons, List.take_zero, List.drop_succ_cons, List.drop_zero, List.set_cons_zero, List.set_cons_succ, true_or, or_true, and_self, Bool.false_eq_true, Nat.le_refl, Option.bind_some, Option.map_some, Option.getD_some, Option.isSome_some, List.map_cons, List.map_nil, List.cons_append, List.nil_append, List.append_nil, List.getElem?_cons_zero, List.getElem?_cons_succ, eq_self, Int.reduceLT, Int.reduceLE, Int.reduceNeg, Int.reduceEq, e0, eo, ei, c1, hl.isRow.len]
      refine loop_rule (fun n e h' => ∃ (j : Nat), e 0 = a ∧ e 5 = vf ∧ e 7 = .int .i64 (l.length + j : Nat) ∧ j ≤ roomM l.length ∧ n = roomM l.length - j ∧ Sep h h' [ownA (α := (Gd false Tkn)) 100 (l.map (fun x => (⟨true, x⟩ : (Gd false Tkn))) ++ List.replicate j (⟨false, Giv.fill⟩ : (Gd false Tkn)) ++ List.replicate (roomM l.length - j) (⟨false, ⟨0, ⟨0, [], []⟩⟩⟩ : (Gd false Tkn))) vf]) ?_ (roomM l.length) _ _ ⟨0, e0, eo, rfl, Nat.zero_le _, rfl, by simpa using s⟩
      rintro n e h1 ⟨j, e0, eo, ej, hj, rfl, s⟩
      have hlen : (l.map (fun x => (⟨true, x⟩ : (Gd false Tkn))) ++ List.replicate j (⟨false, Giv.fill⟩ : (Gd false Tkn)) ++ List.replicate (roomM l.length - j) (⟨false, ⟨0, ⟨0, [], []⟩⟩⟩ : (Gd false Tkn))).length = l.length + roomM l.length := by simp; omega
      have len := s.row.isRow.len Try.prog
      rw [hlen] at len
      simp (disch := omega) only [VW, VY, VZ, VA, VB, VC, VE, TY, ↓reduceIte, Nat.reduceEqDiff, Nat.reduceAdd, Nat.reduceMul, Nat.reduceSub, Nat.reduceLeDiff, List.length_cons, List.length_nil, List.length_append, List.append_assoc, List.take_succ_cons, List.take_zero, List.drop_succ_cons, List.drop_zero, List.set_cons_zero, List.set_cons_succ, true_or, or_true, and_self, Bool.false_eq_true, Nat.le_refl, Option.bind_some, Option.map_some, Option.getD_some, Option.isSome_some, List.map_cons, List.map_nil, List.cons_append, List.nil_append, List.append_nil, List.getElem?_cons_zero, List.getElem?_cons_succ, eq_self, Int.reduceLT, Int.reduceLE, Int.reduceNeg, Int.reduceEq, e0, eo, ej, len]
      by_cases hlt : j < roomM l.length
      · have c1 : ((l.length + j : Nat) : Int) < ((l.length + roomM l.length : Nat) : Int) := by omega
        simp (disch := omega) only [VW, VY, VZ, VA, VB, VC, VE, TY, ↓reduceIte, Nat.reduceEqDiff, Nat.reduceAdd, Nat.reduceMul, Nat.reduceSub, Nat.reduceLeDiff, List.length_cons, List.length_nil, List.length_append, List.append_assoc, List.take_succ_cons, List.take_zero, List.drop_succ_cons, List.drop_zero, List.set_cons_zero, List.set_cons_succ, true_or, or_true, and_self, Bool.false_eq_true, Nat.le_refl, Option.bind_some, Option.map_some, Option.getD_some, Option.isSome_some, List.map_cons, List.map_nil, List.cons_append, List.nil_append, List.append_nil, List.getElem?_cons_zero, List.getElem?_cons_succ, eq_self, Int.reduceLT, Int.reduceLE, Int.reduceNeg, Int.reduceEq, e0, eo, ej, c1]
        refine .inl ⟨by kernel_rfl, ?_⟩; refine fillerTaken_c fun cs2 h2 s2 => ?_
        have hk := s2.rlen
        rw [Tkn.sz] at hk
        have s := s.add s2
        have ix := s.tail.row.isRow.ix Try.prog
        rw [hlen] at ix
        simp (disch := omega) only [VW, VY, VZ, VA, VB, VC, VE, TY, ↓reduceIte, Nat.reduceEqDiff, Nat.reduceAdd, Nat.reduceMul, Nat.reduceSub, Nat.reduceLeDiff, List.length_cons, List.length_nil, List.length_append, List.append_assoc, List.take_succ_cons, List.take_zero, List.drop_succ_cons, List.drop_zero, List.set_cons_zero, List.set_cons_succ, true_or, or_true, and_self, Bool.false_eq_true, Nat.le_refl, Option.bind_some, Option.map_some, Option.getD_some, Option.isSome_some, List.map_cons, List.map_nil, List.cons_append, List.nil_append, List.append_nil, List.getElem?_cons_zero, List.getElem?_cons_succ, eq_self, Int.reduceLT, Int.reduceLE, Int.reduceNeg, Int.reduceEq, e0, eo, ej, ix, hk]
        refine sep_set (α := (Gd false Tkn)) (i := l.length + j) (y := ⟨false, Giv.fill⟩) (Sep.swap (Sep.rGd s)) (by omega) fun h3 s => ?_
        simp (disch := omega) only [VW, VY, VZ, VA, VB, VC, VE, TY, ↓reduceIte, Nat.reduceEqDiff, Nat.reduceAdd, Nat.reduceMul, Nat.reduceSub, Nat.reduceLeDiff, List.length_cons, List.length_nil, List.length_append, List.append_assoc, List.take_succ_cons, List.take_zero, List.drop_succ_cons, List.drop_zero, List.set_cons_zero, List.set_cons_succ, true_or, or_true, and_self, Bool.false_eq_true, Nat.le_refl, Option.bind_some, Option.map_some, Option.getD_some, Option.isSome_some, List.map_cons, List.map_nil, List.cons_append, List.nil_append, List.append_nil, List.getElem?_cons_zero, List.getElem?_cons_succ, eq_self, Int.reduceLT, Int.reduceLE, Int.reduceNeg, Int.reduceEq, e0, eo, ej, wrap_in]
        rw [show roomM l.length - j = (roomM l.length - (j + 1)) + 1 by omega, gd_two] at s
        exact ⟨_, by omega, j + 1, by simp; omega, by omega, rfl, by simpa only [List.append_assoc] using s⟩
      · obtain rfl : j = roomM l.length := by omega
        have c1 : ¬ ((l.length + roomM l.length : Nat) : Int) < ((l.length + roomM l.length : Nat) : Int) := by omega
        have hcap' : l.length ≤ rowC vf := by rw [hcap]; omega
        simp (disch := omega) only [VW, VY, VZ, VA, VB, VC, VE, TY, ↓reduceIte, Nat.reduceEqDiff, Nat.reduceAdd, Nat.reduceMul, Nat.reduceSub, Nat.reduceLeDiff, List.length_cons, List.length_nil, List.length_append, List.append_assoc, List.take_succ_cons, List.take_zero, List.drop_succ_cons, List.drop_zero, List.set_cons_zero, List.set_cons_succ, true_or, or_true, and_self, Bool.false_eq_true, Nat.le_refl, Option.bind_some, Option.map_some, Option.getD_some, Option.isSome_some, List.map_cons, List.map_nil, List.cons_append, List.nil_append, List.append_nil, List.getElem?_cons_zero, List.getElem?_cons_succ, eq_self, Int.reduceLT, Int.reduceLE, Int.reduceNeg, Int.reduceEq, e0, eo, ej, c1, hl.isRow.len, s.row.isRow.sl]
        rw [Nat.sub_self, List.replicate_zero, List.append_nil] at s
        exact hQ _ _ (Sep.givL (l := l) s hcap)
  case true =>
    refine .inl ⟨by kernel_rfl, roomBehind_c (by omega) ?_⟩
    simp (disch := omega) only [VW, VY, VZ, VA, VB, VC, VE, TY, ↓reduceIte, Nat.reduceEqDiff, Nat.reduceAdd, Nat.reduceMul, Nat.reduceSub, Nat.reduceLeDiff, List.length_cons, List.length_nil, List.length_append, List.append_assoc, List.take_succ_cons, List.take_zero, List.drop_succ_cons, List.drop_zero, List.set_cons_zero, List.set_cons_succ, true_or, or_true, and_self, Bool.false_eq_true, Nat.le_refl, Option.bind_some, Option.map_some, Option.getD_some, Option.isSome_some, List.map_cons, List.map_nil, List.cons_append, List.nil_append, List.append_nil, List.getElem?_cons_zero, List.getElem?_cons_succ, eq_self, Int.reduceLT, Int.reduceLE, Int.reduceNeg, Int.reduceEq, wrap_in]
    rw [← Int.natCast_add]
    refine sep_make (α := (Gd true Tkn)) ⟨false, ⟨0, ⟨0, [], []⟩⟩⟩ (Sep.nil (.refl h)) te58 tk100 (fun h => zero_Tkn h) (by decide) (by simp only []; omega) fun vf h0 s hcap hnv => ?_
    simp (disch := omega) only [VW, VY, VZ, VA, VB, VC, VE, TY, ↓reduceIte, Nat.reduceEqDiff, Nat.reduceAdd, Nat.reduceMul, Nat.reduceSub, Nat.reduceLeDiff, List.length_cons, List.length_nil, List.length_append, List.append_assoc, List.take_succ_cons, List.take_zero, List.drop_succ_cons, List.drop_zero, List.set_cons_zero, List.set_cons_succ, true_or, or_true, and_self, Bool.false_eq_true, Nat.le_refl, Option.bind_some, Option.map_some, Option.getD_some, Option.isSome_some, List.map_cons, List.map_nil, List.cons_append, List.nil_append, List.append_nil, List.getElem?_cons_zero, List.getElem?_cons_succ, eq_self, Int.reduceLT, Int.reduceLE, Int.reduceNeg, Int.reduceEq]
    refine loop_rule (fun n e h' => ∃ (i : Nat), e 0 = a ∧ e 1 = .bool true ∧ e 5 = vf ∧ e 6 = .int .i64 i ∧ i ≤ l.length ∧ n = l.length - i ∧ Sep h h' [ownA (α := (Gd true Tkn)) 100 ((l.take i).map (fun x => (⟨true, x⟩ : (Gd true Tkn))) ++ List.replicate (l.length + roomM l.length - i) (⟨false, ⟨0, ⟨0, [], []⟩⟩⟩ : (Gd true Tkn))) vf]) ?_ l.length _ _ ⟨0, rfl, rfl, rfl, rfl, Nat.zero_le _, rfl, by simpa using s⟩
    rintro n e h1 ⟨i, e0, e1, eo, ei, hi, rfl, s⟩
    have E1 := s.ext
    have hlen : ((l.take i).map (fun x => (⟨true, x⟩ : (Gd true Tkn))) ++ List.replicate (l.length + roomM l.length - i) (⟨false, ⟨0, ⟨0, [], []⟩⟩⟩ : (Gd true Tkn))).length = l.length + roomM l.length := by simp; omega
    simp (disch := omega) only [VW, VY, VZ, VA, VB, VC, VE, TY, ↓reduceIte, Nat.reduceEqDiff, Nat.reduceAdd, Nat.reduceMul, Nat.reduceSub, Nat.reduceLeDiff, List.length_cons, List.length_nil, List.length_append, List.append_assoc, List.take_succ_cons, List.take_zero, List.drop_succ_cons, List.drop_zero, List.set_cons_zero, List.set_cons_succ, true_or, or_true, and_self, Bool.false_eq_true, Nat.le_refl, Option.bind_some, Option.map_some, Option.getD_some, Option.isSome_some, List.map_cons, List.map_nil, List.cons_append, List.nil_append, List.append_nil, List.getElem?_cons_zero, List.getElem?_cons_succ, eq_self, Int.reduceLT, Int.reduceLE, Int.reduceNeg, Int.reduceEq, e0, eo, ei, hl.isRow.len]
    by_cases hlt : i < l.length
    · obtain ⟨x, hx⟩ := get_some hlt
      have c1 : (i : Int) < (l.length : Int) := by omega
      obtain ⟨_, x3, x4⟩ := Row.at (hl.mono E1) hx
      rw [Tkn.sz] at x3
      simp (disch := omega) only [VW, VY, VZ, VA, VB, VC, VE, TY, ↓reduceIte, Nat.reduceEqDiff, Nat.reduceAdd, Nat.reduceMul, Nat.reduceSub, Nat.reduceLeDiff, List.length_cons, List.length_nil, List.length_append, List.append_assoc, List.take_succ_cons, List.take_zero, List.drop_succ_cons, List.drop_zero, List.set_cons_zero, List.set_cons_succ, true_or, or_true, and_self, Bool.false_eq_true, Nat.le_refl, Option.bind_some, Option.map_some, Option.getD_some, Option.isSome_some, List.map_cons, List.map_nil, List.cons_append, List.nil_append, List.append_nil, List.getElem?_cons_zero, List.getElem?_cons_succ, eq_self, Int.reduceLT, Int.reduceLE, Int.reduceNeg, Int.reduceEq, e0, e1, eo, ei, c1, hl.isRow.ix, x3]
      refine .inl ⟨by kernel_rfl, ?_⟩; refine toTaken_c (b := true) x4 (hm hx) fun cs2 h2 s2 => ?_
      have hk := s2.gpull
      rw [Tkn.sz] at hk
      have s := s.add s2
      have ix := s.tail.row.isRow.ix Try.prog
      rw [hlen] at ix
      simp (disch := omega) only [VW, VY, VZ, VA, VB, VC, VE, TY, ↓reduceIte, Nat.reduceEqDiff, Nat.reduceAdd, Nat.reduceMul, Nat.reduceSub, Nat.reduceLeDiff, List.length_cons, List.length_nil, List.length_append, List.append_assoc, List.take_succ_cons, List.take_zero, List.drop_succ_cons, List.drop_zero, List.set_cons_zero, List.set_cons_succ, true_or, or_true, and_self, Bool.false_eq_true, Nat.le_refl, Option.bind_some, Option.map_some, Option.getD_some, Option.isSome_some, List.map_cons, List.map_nil, List.cons_append, List.nil_append, List.append_nil, List.getElem?_cons_zero, List.getElem?_cons_succ, eq_self, Int.reduceLT, Int.reduceLE, Int.reduceNeg, Int.reduceEq, e0, e1, eo, ei, ix, hk]
      refine sep_set (α := (Gd true Tkn)) (i := i) (y := ⟨true, x⟩) (Sep.swap (Sep.gGd s)) (by omega) fun h3 s => ?_
      simp (disch := omega) only [VW, VY, VZ, VA, VB, VC, VE, TY, ↓reduceIte, Nat.reduceEqDiff, Nat.reduceAdd, Nat.reduceMul, Nat.reduceSub, Nat.reduceLeDiff, List.length_cons, List.length_nil, List.length_append, List.append_assoc, List.take_succ_cons, List.take_zero, List.drop_succ_cons, List.drop_zero, List.set_cons_zero, List.set_cons_succ, true_or, or_true, and_self, Bool.false_eq_true, Nat.le_refl, Option.bind_some, Option.map_some, Option.getD_some, Option.isSome_some, List.map_cons, List.map_nil, List.cons_append, List.nil_append, List.append_nil, List.getElem?_cons_zero, List.getElem?_cons_succ, eq_self, Int.reduceLT, Int.reduceLE, Int.reduceNeg, Int.reduceEq, e0, e1, eo, ei, wrap_in]
      rw [show l.length + roomM l.length - i = (l.length + roomM l.length - (i + 1)) + 1 by omega, gd_one hx] at s
      exact ⟨_, by omega, i + 1, by simp, by omega, rfl, s⟩
    · obtain rfl : i = l.length := by omega
      have c1 : ¬ (l.length : Int) < (l.length : Int) := by omega
      simp (disch := omega) only [VW, VY, VZ, VA, VB, VC, VE, TY, ↓reduceIte, Nat.reduceEqDiff, Nat.reduceAdd, Nat.reduceMul, Nat.reduceSub, Nat.reduceLeDiff, List.length_cons, List.length_nil, List.length_append, List.append_assoc, List.take_succ_cons, List.take_zero, List.drop_succ_cons, List.drop_zero, List.set_cons_zero, List.set_cons_succ, true_or, or_true, and_self, Bool.false_eq_true, Nat.le_refl, Option.bind_some, Option.map_some, Option.getD_some, Option.isSome_some, List.map_cons, List.map_nil, List.cons_append, List.nil_append, List.append_nil, List.getElem?_cons_zero, List.getElem?_cons_succ, eq_self, Int.reduceLT, Int.reduceLE, Int.reduceNeg, Int.reduceEq, e0, eo, ei, c1, hl.isRow.len]
      refine loop_rule (fun n e h' => ∃ (j : Nat), e 0 = a ∧ e 5 = vf ∧ e 7 = .int .i64 (l.length + j : Nat) ∧ j ≤ roomM l.length ∧ n = roomM l.length - j ∧ Sep h h' [ownA (α := (Gd true Tkn)) 100 (l.map (fun x => (⟨true, x⟩ : (Gd true Tkn))) ++ List.replicate j (⟨false, Giv.fill⟩ : (Gd true Tkn)) ++ List.replicate (roomM l.length - j) (⟨false, ⟨0, ⟨0, [], []⟩⟩⟩ : (Gd true Tkn))) vf]) ?_ (roomM l.length) _ _ ⟨0, e0, eo, rfl, Nat.zero_le _, rfl, by simpa using s⟩
      rintro n e h1 ⟨j, e0, eo, ej, hj, rfl, s⟩
      have hlen : (l.map (fun x => (⟨true, x⟩ : (Gd true Tkn))) ++ List.replicate j (⟨false, Giv.fill⟩ : (Gd true Tkn)) ++ List.replicate (roomM l.length - j) (⟨false, ⟨0, ⟨0, [], []⟩⟩⟩ : (Gd true Tkn))).length = l.length + roomM l.length := by simp; omega
      have len := s.row.isRow.len Try.prog
      rw [hlen] at len
      simp (disch := omega) only [VW, VY, VZ, VA, VB, VC, VE, TY, ↓reduceIte, Nat.reduceEqDiff, Nat.reduceAdd, Nat.reduceMul, Nat.reduceSub, Nat.reduceLeDiff, List.length_cons, List.length_nil, List.length_append, List.append_assoc, List.take_succ_cons, List.take_zero, List.drop_succ_cons, List.drop_zero, List.set_cons_zero, List.set_cons_succ, true_or, or_true, and_self, Bool.false_eq_true, Nat.le_refl, Option.bind_some, Option.map_some, Option.getD_some, Option.isSome_some, List.map_cons, List.map_nil, List.cons_append, List.nil_append, List.append_nil, List.getElem?_cons_zero, List.getElem?_cons_succ, eq_self, Int.reduceLT, Int.reduceLE, Int.reduceNeg, Int.reduceEq, e0, eo, ej, len]
      by_cases hlt : j < roomM l.length
      · have c1 : ((l.length + j : Nat) : Int) < ((l.length + roomM l.length : Nat) : Int) := by omega
        simp (disch := omega) only [VW, VY, VZ, VA, VB, VC, VE, TY, ↓reduceIte, Nat.reduceEqDiff, Nat.reduceAdd, Nat.reduceMul, Nat.reduceSub, Nat.reduceLeDiff, List.length_cons, List.length_nil, List.length_append, List.append_assoc, List.take_succ_cons, List.take_zero, List.drop_succ_cons, List.drop_zero, List.set_cons_zero, List.set_cons_succ, true_or, or_true, and_self, Bool.false_eq_true, Nat.le_refl, Option.bind_some, Option.map_some, Option.getD_some, Option.isSome_some, List.map_cons, List.map_nil, List.cons_append, List.nil_append, List.append_nil, List.getElem?_cons_zero, List.getElem?_cons_succ, eq_self, Int.reduceLT, Int.reduceLE, Int.reduceNeg, Int.reduceEq, e0, eo, ej, c1]
        refine .inl ⟨by kernel_rfl, ?_⟩; refine fillerTaken_c fun cs2 h2 s2 => ?_
        have hk := s2.rlen
        rw [Tkn.sz] at hk
        have s := s.add s2
        have ix := s.tail.row.isRow.ix Try.prog
        rw [hlen] at ix
        simp (disch := omega) only [VW, VY, VZ, VA, VB, VC, VE, TY, ↓reduceIte, Nat.reduceEqDiff, Nat.reduceAdd, Nat.reduceMul, Nat.reduceSub, Nat.reduceLeDiff, List.length_cons, List.length_nil, List.length_append, List.append_assoc, List.take_succ_cons, List.take_zero, List.drop_succ_cons, List.drop_zero, List.set_cons_zero, List.set_cons_succ, true_or, or_true, and_self, Bool.false_eq_true, Nat.le_refl, Option.bind_some, Option.map_some, Option.getD_some, Option.isSome_some, List.map_cons, List.map_nil, List.cons_append, List.nil_append, List.append_nil, List.getElem?_cons_zero, List.getElem?_cons_succ, eq_self, Int.reduceLT, Int.reduceLE, Int.reduceNeg, Int.reduceEq, e0, eo, ej, ix, hk]
        refine sep_set (α := (Gd true Tkn)) (i := l.length + j) (y := ⟨false, Giv.fill⟩) (Sep.swap (Sep.rGd s)) (by omega) fun h3 s => ?_
        simp (disch := omega) only [VW, VY, VZ, VA, VB, VC, VE, TY, ↓reduceIte, Nat.reduceEqDiff, Nat.reduceAdd, Nat.reduceMul, Nat.reduceSub, Nat.reduceLeDiff, List.length_cons, List.length_nil, List.length_append, List.append_assoc, List.take_succ_cons, List.take_zero, List.drop_succ_cons, List.drop_zero, List.set_cons_zero, List.set_cons_succ, true_or, or_true, and_self, Bool.false_eq_true, Nat.le_refl, Option.bind_some, Option.map_some, Option.getD_some, Option.isSome_some, List.map_cons, List.map_nil, List.cons_append, List.nil_append, List.append_nil, List.getElem?_cons_zero, List.getElem?_cons_succ, eq_self, Int.reduceLT, Int.reduceLE, Int.reduceNeg, Int.reduceEq, e0, eo, ej, wrap_in]
        rw [show roomM l.length - j = (roomM l.length - (j + 1)) + 1 by omega, gd_two] at s
        exact ⟨_, by omega, j + 1, by simp; omega, by omega, rfl, by simpa only [List.append_assoc] using s⟩
      · obtain rfl : j = roomM l.length := by omega
        have c1 : ¬ ((l.length + roomM l.length : Nat) : Int) < ((l.length + roomM l.length : Nat) : Int) := by omega
        have hcap' : l.length ≤ rowC vf := by rw [hcap]; omega
        simp (disch := omega) only [VW, VY, VZ, VA, VB, VC, VE, TY, ↓reduceIte, Nat.reduceEqDiff, Nat.reduceAdd, Nat.reduceMul, Nat.reduceSub, Nat.reduceLeDiff, List.length_cons, List.length_nil, List.length_append, List.append_assoc, List.take_succ_cons, List.take_zero, List.drop_succ_cons, List.drop_zero, List.set_cons_zero, List.set_cons_succ, true_or, or_true, and_self, Bool.false_eq_true, Nat.le_refl, Option.bind_some, Option.map_some, Option.getD_some, Option.isSome_some, List.map_cons, List.map_nil, List.cons_append, List.nil_append, List.append_nil, List.getElem?_cons_zero, List.getElem?_cons_succ, eq_self, Int.reduceLT, Int.reduceLE, Int.reduceNeg, Int.reduceEq, e0, eo, ej, c1, hl.isRow.len, s.row.isRow.sl]
        rw [Nat.sub_self, List.replicate_zero, List.append_nil] at s
        exact hQ _ _ (Sep.givL (l := l) s hcap)
theorem eqTakenS_c {l m : List Tkn} {v w : Value} {h : Heap} {Q : Value → Heap → Prop} (hl : Row h l v) (hm : Row h m w)
    (hQ : ∀ h', Ext h h' → Q (.bool (decide (l = m))) h') : CallsV Try.prog 103 [v, w] h Q := by
  refine CallsV.start Try.func103 rfl (by rw [Try.results103]) (by kernel_rfl) (by rw [Try.ntmps103]; simp) ?_
  have hll := hl.le
  have hml := hm.le
  simp (disch := omega) only [VW, VY, VZ, VA, VB, VC, VE, TY, ↓reduceIte, Nat.reduceEqDiff, Nat.reduceAdd, Nat.reduceMul, Nat.reduceSub, Nat.reduceLeDiff, List.length_cons, List.length_nil, List.length_append, List.append_assoc, List.take_succ_cons, List.take_zero, List.drop_succ_cons, List.drop_zero, List.set_cons_zero, List.set_cons_succ, true_or, or_true, and_self, Bool.false_eq_true, Nat.le_refl, Option.bind_some, Option.map_some, Option.getD_some, Option.isSome_some, List.map_cons, List.map_nil, List.cons_append, List.nil_append, List.append_nil, List.getElem?_cons_zero, List.getElem?_cons_succ, eq_self, Int.reduceLT, Int.reduceLE, Int.reduceNeg, Int.reduceEq, hl.isRow.len, hm.isRow.len]
  by_cases hne : l.length = m.length
  · have c0 : (l.length : Int) = (m.length : Int) := by omega
    simp (disch := omega) only [VW, VY, VZ, VA, VB, VC, VE, TY, ↓reduceIte, Nat.reduceEqDiff, Nat.reduceAdd, Nat.reduceMul, Nat.reduceSub, Nat.reduceLeDiff, List.length_cons, List.length_nil, List.length_append, List.append_assoc, List.take_succ_cons, List.take_zero, List.drop_succ_cons, List.drop_zero, List.set_cons_zero, List.set_cons_succ, true_or, or_true, and_self, Bool.false_eq_true, Nat.le_refl, Option.bind_some, Option.map_some, Option.getD_some, Option.isSome_some, List.map_cons, List.map_nil, List.cons_append, List.nil_append, List.append_nil, List.getElem?_cons_zero, List.getElem?_cons_succ, eq_self, Int.reduceLT, Int.reduceLE, Int.reduceNeg, Int.reduceEq, c0]
    refine loop_rule (fun n e h' => ∃ (i : Nat), e 0 = v ∧ e 1 = w ∧ e 5 = .int .i64 i ∧ i ≤ l.length ∧ n = l.length - i ∧ Ext h h' ∧ l.take i = m.take i) ?_ l.length _ _ ⟨0, rfl, rfl, rfl, Nat.zero_le _, rfl, .refl _, by simp⟩
    rintro n e h1 ⟨i, e0, e1, ei, hi, rfl, E1, ht⟩
    simp (disch := omega) only [VW, VY, VZ, VA, VB, VC, VE, TY, ↓reduceIte, Nat.reduceEqDiff, Nat.reduceAdd, Nat.reduceMul, Nat.reduceSub, Nat.reduceLeDiff, List.length_cons, List.length_nil, List.length_append, List.append_assoc, List.take_succ_cons, List.take_zero, List.drop_succ_cons, List.drop_zero, List.set_cons_zero, List.set_cons_succ, true_or, or_true, and_self, Bool.false_eq_true, Nat.le_refl, Option.bind_some, Option.map_some, Option.getD_some, Option.isSome_some, List.map_cons, List.map_nil, List.cons_append, List.nil_append, List.append_nil, List.getElem?_cons_zero, List.getElem?_cons_succ, eq_self, Int.reduceLT, Int.reduceLE, Int.reduceNeg, Int.reduceEq, e0, e1, ei, hl.isRow.len]
    by_cases hlt : i < l.length
    · obtain ⟨x, hx⟩ := get_some hlt
      obtain ⟨y, hy⟩ := get_some (show i < m.length by omega)
      have c1 : (i : Int) < (l.length : Int) := by omega
      obtain ⟨_, x3, x4⟩ := Row.at (hl.mono E1) hx
      rw [Tkn.sz] at x3
      obtain ⟨_, y3, y4⟩ := Row.at (hm.mono E1) hy
      rw [Tkn.sz] at y3
      simp (disch := omega) only [VW, VY, VZ, VA, VB, VC, VE, TY, ↓reduceIte, Nat.reduceEqDiff, Nat.reduceAdd, Nat.reduceMul, Nat.reduceSub, Nat.reduceLeDiff, List.length_cons, List.length_nil, List.length_append, List.append_assoc, List.take_succ_cons, List.take_zero, List.drop_succ_cons, List.drop_zero, List.set_cons_zero, List.set_cons_succ, true_or, or_true, and_self, Bool.false_eq_true, Nat.le_refl, Option.bind_some, Option.map_some, Option.getD_some, Option.isSome_some, List.map_cons, List.map_nil, List.cons_append, List.nil_append, List.append_nil, List.getElem?_cons_zero, List.getElem?_cons_succ, eq_self, Int.reduceLT, Int.reduceLE, Int.reduceNeg, Int.reduceEq, e0, e1, ei, c1]
      refine draw_id (by kernel_rfl) ?_
      simp (disch := omega) only [VW, VY, VZ, VA, VB, VC, VE, TY, ↓reduceIte, Nat.reduceEqDiff, Nat.reduceAdd, Nat.reduceMul, Nat.reduceSub, Nat.reduceLeDiff, List.length_cons, List.length_nil, List.length_append, List.append_assoc, List.take_succ_cons, List.take_zero, List.drop_succ_cons, List.drop_zero, List.set_cons_zero, List.set_cons_succ, true_or, or_true, and_self, Bool.false_eq_true, Nat.le_refl, Option.bind_some, Option.map_some, Option.getD_some, Option.isSome_some, List.map_cons, List.map_nil, List.cons_append, List.nil_append, List.append_nil, List.getElem?_cons_zero, List.getElem?_cons_succ, eq_self, Int.reduceLT, Int.reduceLE, Int.reduceNeg, Int.reduceEq, e0, e1, ei, hl.isRow.ix, hm.isRow.ix, x3, y3]
      refine .inl ⟨by kernel_rfl, ?_⟩; refine eqTaken_c x4 y4 fun h2 E2 => ?_
      have x3' := x3
      have y3' := y3
      rw [← E2.cellsAt (row_live hl E1 hx)] at x3'
      rw [← E2.cellsAt (row_live hm E1 hy)] at y3'
      simp (disch := omega) only [VW, VY, VZ, VA, VB, VC, VE, TY, ↓reduceIte, Nat.reduceEqDiff, Nat.reduceAdd, Nat.reduceMul, Nat.reduceSub, Nat.reduceLeDiff, List.length_cons, List.length_nil, List.length_append, List.append_assoc, List.take_succ_cons, List.take_zero, List.drop_succ_cons, List.drop_zero, List.set_cons_zero, List.set_cons_succ, true_or, or_true, and_self, Bool.false_eq_true, Nat.le_refl, Option.bind_some, Option.map_some, Option.getD_some, Option.isSome_some, List.map_cons, List.map_nil, List.cons_append, List.nil_append, List.append_nil, List.getElem?_cons_zero, List.getElem?_cons_succ, eq_self, Int.reduceLT, Int.reduceLE, Int.reduceNeg, Int.reduceEq, x3', y3']
      by_cases hxy : x = y
      · subst hxy
        simp (disch := omega) only [VW, VY, VZ, VA, VB, VC, VE, TY, ↓reduceIte, Nat.reduceEqDiff, Nat.reduceAdd, Nat.reduceMul, Nat.reduceSub, Nat.reduceLeDiff, List.length_cons, List.length_nil, List.length_append, List.append_assoc, List.take_succ_cons, List.take_zero, List.drop_succ_cons, List.drop_zero, List.set_cons_zero, List.set_cons_succ, true_or, or_true, and_self, Bool.false_eq_true, Nat.le_refl, Option.bind_some, Option.map_some, Option.getD_some, Option.isSome_some, List.map_cons, List.map_nil, List.cons_append, List.nil_append, List.append_nil, List.getElem?_cons_zero, List.getElem?_cons_succ, eq_self, Int.reduceLT, Int.reduceLE, Int.reduceNeg, Int.reduceEq, e0, e1, ei, wrap_in]
        exact ⟨_, by omega, i + 1, by simp, by omega, rfl, E1.trans E2, take_succ_eq ht hx hy⟩
      · simp (disch := omega) only [VW, VY, VZ, VA, VB, VC, VE, TY, ↓reduceIte, Nat.reduceEqDiff, Nat.reduceAdd, Nat.reduceMul, Nat.reduceSub, Nat.reduceLeDiff, List.length_cons, List.length_nil, List.length_append, List.append_assoc, List.take_succ_cons, List.take_zero, List.drop_succ_cons, List.drop_zero, List.set_cons_zero, List.set_cons_succ, true_or, or_true, and_self, Bool.false_eq_true, Nat.le_refl, Option.bind_some, Option.map_some, Option.getD_some, Option.isSome_some, List.map_cons, List.map_nil, List.cons_append, List.nil_append, List.append_nil, List.getElem?_cons_zero, List.getElem?_cons_succ, eq_self, Int.reduceLT, Int.reduceLE, Int.reduceNeg, Int.reduceEq, hxy]
        have : l ≠ m := fun e => hxy (by rw [e, hy] at hx; simpa using hx.symm)
        simpa [this] using hQ _ (E1.trans E2)
    · obtain rfl : i = l.length := by omega
      have c1 : ¬ (l.length : Int) < (l.length : Int) := by omega
      simp (disch := omega) only [VW, VY, VZ, VA, VB, VC, VE, TY, ↓reduceIte, Nat.reduceEqDiff, Nat.reduceAdd, Nat.reduceMul, Nat.reduceSub, Nat.reduceLeDiff, List.length_cons, List.length_nil, List.length_append, List.append_assoc, List.take_succ_cons, List.take_zero, List.drop_succ_cons, List.drop_zero, List.set_cons_zero, List.set_cons_succ, true_or, or_true, and_self, Bool.false_eq_true, Nat.le_refl, Option.bind_some, Option.map_some, Option.getD_some, Option.isSome_some, List.map_cons, List.map_nil, List.cons_append, List.nil_append, List.append_nil, List.getElem?_cons_zero, List.getElem?_cons_succ, eq_self, Int.reduceLT, Int.reduceLE, Int.reduceNeg, Int.reduceEq, e0, e1, ei, c1]
      have : l = m := by rw [List.take_of_length_le (Nat.le_refl _), List.take_of_length_le (by omega)] at ht; exact ht
      simpa [this] using hQ _ E1
  · have c0 : ¬ (l.length : Int) = (m.length : Int) := by omega
    simp (disch := omega) only [VW, VY, VZ, VA, VB, VC, VE, TY, ↓reduceIte, Nat.reduceEqDiff, Nat.reduceAdd, Nat.reduceMul, Nat.reduceSub, Nat.reduceLeDiff, List.length_cons, List.length_nil, List.length_append, List.append_assoc, List.take_succ_cons, List.take_zero, List.drop_succ_cons, List.drop_zero, List.set_cons_zero, List.set_cons_succ, true_or, or_true, and_self, Bool.false_eq_true, Nat.le_refl, Option.bind_some, Option.map_some, Option.getD_some, Option.isSome_some, List.map_cons, List.map_nil, List.cons_append, List.nil_append, List.append_nil, List.getElem?_cons_zero, List.getElem?_cons_succ, eq_self, Int.reduceLT, Int.reduceLE, Int.reduceNeg, Int.reduceEq, c0]
    have : l ≠ m := fun e => hne (by rw [e])
    simpa [this] using hQ _ (.refl _)
theorem intactTakenS_c {l : List Tkn} {v w : Value} {h : Heap} {Q : Value → Heap → Prop} (hl : GivH h l [v]) (hm : GivH h l [w]) (hn : Siz.siz l ≤ 1000000)
    (hQ : ∀ h', Ext h h' → Q (.bool true) h') : CallsV Try.prog 67 [v, w] h Q := by
  refine CallsV.start Try.func67 rfl (by rw [Try.results67]) (by kernel_rfl) (by rw [Try.ntmps67]; simp) ?_
  have hs := siz_list l
  have hroom := roomM_le l.length
  have rl := hl.row
  have rm := hm.row
  obtain ⟨cl, al⟩ := hl.all
  obtain ⟨cm, am⟩ := hm.all
  have hc1 : l.length + roomM l.length ≤ rowC v := by omega
  have hc2 : l.length + roomM l.length ≤ rowC w := by omega
  simp (disch := omega) only [VW, VY, VZ, VA, VB, VC, VE, TY, ↓reduceIte, Nat.reduceEqDiff, Nat.reduceAdd, Nat.reduceMul, Nat.reduceSub, Nat.reduceLeDiff, List.length_cons, List.length_nil, List.length_append, List.append_assoc, List.take_succ_cons, List.take_zero, List.drop_succ_cons, List.drop_zero, List.set_cons_zero, List.set_cons_succ, true_or, or_true, and_self, Bool.false_eq_true, Nat.le_refl, Option.bind_some, Option.map_some, Option.getD_some, Option.isSome_some, List.map_cons, List.map_nil, List.cons_append, List.nil_append, List.append_nil, List.getElem?_cons_zero, List.getElem?_cons_succ, eq_self, Int.reduceLT, Int.reduceLE, Int.reduceNeg, Int.reduceEq, rm.isRow.len]
  refine .inl ⟨by kernel_rfl, ?_⟩; refine roomBehind_c (by omega) ?_
  simp (disch := omega) only [VW, VY, VZ, VA, VB, VC, VE, TY, ↓reduceIte, Nat.reduceEqDiff, Nat.reduceAdd, Nat.reduceMul, Nat.reduceSub, Nat.reduceLeDiff, List.length_cons, List.length_nil, List.length_append, List.append_assoc, List.take_succ_cons, List.take_zero, List.drop_succ_cons, List.drop_zero, List.set_cons_zero, List.set_cons_succ, true_or, or_true, and_self, Bool.false_eq_true, Nat.le_refl, Option.bind_some, Option.map_some, Option.getD_some, Option.isSome_some, List.map_cons, List.map_nil, List.cons_append, List.nil_append, List.append_nil, List.getElem?_cons_zero, List.getElem?_cons_succ, eq_self, Int.reduceLT, Int.reduceLE, Int.reduceNeg, Int.reduceEq, wrap_in, rl.isRow.len, rm.isRow.len]
  rw [← Int.natCast_add]
  refine loop_rule (fun n e h' => ∃ (i : Nat), e 0 = v ∧ e 1 = w ∧ e 5 = .int .i64 (l.length + roomM l.length : Nat) ∧ e 6 = .int .i64 i ∧ i ≤ l.length ∧ n = l.length - i ∧ Ext h h') ?_ l.length _ _ ⟨0, rfl, rfl, rfl, rfl, Nat.zero_le _, rfl, .refl _⟩
  rintro n e h1 ⟨i, e0, e1, en, ei, hi, rfl, E1⟩
  simp (disch := omega) only [VW, VY, VZ, VA, VB, VC, VE, TY, ↓reduceIte, Nat.reduceEqDiff, Nat.reduceAdd, Nat.reduceMul, Nat.reduceSub, Nat.reduceLeDiff, List.length_cons, List.length_nil, List.length_append, List.append_assoc, List.take_succ_cons, List.take_zero, List.drop_succ_cons, List.drop_zero, List.set_cons_zero, List.set_cons_succ, true_or, or_true, and_self, Bool.false_eq_true, Nat.le_refl, Option.bind_some, Option.map_some, Option.getD_some, Option.isSome_some, List.map_cons, List.map_nil, List.cons_append, List.nil_append, List.append_nil, List.getElem?_cons_zero, List.getElem?_cons_succ, eq_self, Int.reduceLT, Int.reduceLE, Int.reduceNeg, Int.reduceEq, e0, e1, ei, rm.isRow.len]
  by_cases hlt : i < l.length
  · obtain ⟨x, hx⟩ := get_some hlt
    have c1 : (i : Int) < (l.length : Int) := by omega
    have hsx := siz_mem hx
    obtain ⟨xs, x3, x4⟩ := (hl.mono E1).at hx
    obtain ⟨ys, y3, y4⟩ := (hm.mono E1).at hx
    rw [Tkn.sz] at x3 y3
    simp (disch := omega) only [VW, VY, VZ, VA, VB, VC, VE, TY, ↓reduceIte, Nat.reduceEqDiff, Nat.reduceAdd, Nat.reduceMul, Nat.reduceSub, Nat.reduceLeDiff, List.length_cons, List.length_nil, List.length_append, List.append_assoc, List.take_succ_cons, List.take_zero, List.drop_succ_cons, List.drop_zero, List.set_cons_zero, List.set_cons_succ, true_or, or_true, and_self, Bool.false_eq_true, Nat.le_refl, Option.bind_some, Option.map_some, Option.getD_some, Option.isSome_some, List.map_cons, List.map_nil, List.cons_append, List.nil_append, List.append_nil, List.getElem?_cons_zero, List.getElem?_cons_succ, eq_self, Int.reduceLT, Int.reduceLE, Int.reduceNeg, Int.reduceEq, e0, e1, ei, c1]
    refine draw_id (by kernel_rfl) ?_
    simp (disch := omega) only [VW, VY, VZ, VA, VB, VC, VE, TY, ↓reduceIte, Nat.reduceEqDiff, Nat.reduceAdd, Nat.reduceMul, Nat.reduceSub, Nat.reduceLeDiff, List.length_cons, List.length_nil, List.length_append, List.append_assoc, List.take_succ_cons, List.take_zero, List.drop_succ_cons, List.drop_zero, List.set_cons_zero, List.set_cons_succ, true_or, or_true, and_self, Bool.false_eq_true, Nat.le_refl, Option.bind_some, Option.map_some, Option.getD_some, Option.isSome_some, List.map_cons, List.map_nil, List.cons_append, List.nil_append, List.append_nil, List.getElem?_cons_zero, List.getElem?_cons_succ, eq_self, Int.reduceLT, Int.reduceLE, Int.reduceNeg, Int.reduceEq, e0, e1, ei, rl.isRow.ix, rm.isRow.ix, x3, y3]
    refine .inl ⟨by kernel_rfl, ?_⟩; refine intactTaken_c x4 y4 (by omega) fun h2 E2 => ?_
    have x3' := x3
    have y3' := y3
    rw [← E2.cellsAt (row_live rl E1 hx)] at x3'
    rw [← E2.cellsAt (row_live rm E1 hx)] at y3'
    simp (disch := omega) only [VW, VY, VZ, VA, VB, VC, VE, TY, ↓reduceIte, Nat.reduceEqDiff, Nat.reduceAdd, Nat.reduceMul, Nat.reduceSub, Nat.reduceLeDiff, List.length_cons, List.length_nil, List.length_append, List.append_assoc, List.take_succ_cons, List.take_zero, List.drop_succ_cons, List.drop_zero, List.set_cons_zero, List.set_cons_succ, true_or, or_true, and_self, Bool.false_eq_true, Nat.le_refl, Option.bind_some, Option.map_some, Option.getD_some, Option.isSome_some, List.map_cons, List.map_nil, List.cons_append, List.nil_append, List.append_nil, List.getElem?_cons_zero, List.getElem?_cons_succ, eq_self, Int.reduceLT, Int.reduceLE, Int.reduceNeg, Int.reduceEq, x3', y3', e0, e1, ei, wrap_in, en]
    exact ⟨_, by omega, i + 1, by simp, by omega, rfl, E1.trans E2⟩
  · obtain rfl : i = l.length := by omega
    have c1 : ¬ (l.length : Int) < (l.length : Int) := by omega
    simp (disch := omega) only [VW, VY, VZ, VA, VB, VC, VE, TY, ↓reduceIte, Nat.reduceEqDiff, Nat.reduceAdd, Nat.reduceMul, Nat.reduceSub, Nat.reduceLeDiff, List.length_cons, List.length_nil, List.length_append, List.append_assoc, List.take_succ_cons, List.take_zero, List.drop_succ_cons, List.drop_zero, List.set_cons_zero, List.set_cons_succ, true_or, or_true, and_self, Bool.false_eq_true, Nat.le_refl, Option.bind_some, Option.map_some, Option.getD_some, Option.isSome_some, List.map_cons, List.map_nil, List.cons_append, List.nil_append, List.append_nil, List.getElem?_cons_zero, List.getElem?_cons_succ, eq_self, Int.reduceLT, Int.reduceLE, Int.reduceNeg, Int.reduceEq, e0, e1, ei, en, c1]
    refine draw_id (by kernel_rfl) ?_
    have al2 := (Gd.row al).tail (a := l.length) E1 (by simp [gdAll_length]) (by omega)
    have am2 := (Gd.row am).tail (a := l.length) E1 (by simp [gdAll_length]) (by omega)
    simp (disch := omega) only [VW, VY, VZ, VA, VB, VC, VE, TY, ↓reduceIte, Nat.reduceEqDiff, Nat.reduceAdd, Nat.reduceMul, Nat.reduceSub, Nat.reduceLeDiff, List.length_cons, List.length_nil, List.length_append, List.append_assoc, List.take_succ_cons, List.take_zero, List.drop_succ_cons, List.drop_zero, List.set_cons_zero, List.set_cons_succ, true_or, or_true, and_self, Bool.false_eq_true, Nat.le_refl, Option.bind_some, Option.map_some, Option.getD_some, Option.isSome_some, List.map_cons, List.map_nil, List.cons_append, List.nil_append, List.append_nil, List.getElem?_cons_zero, List.getElem?_cons_succ, eq_self, Int.reduceLT, Int.reduceLE, Int.reduceNeg, Int.reduceEq, e0, e1, ei, en, rm.isRow.len, rl.isRow.sl, rm.isRow.sl]
    refine .inl ⟨by kernel_rfl, ?_⟩; refine eqTakenS_c al2 am2 fun h2 E2 => ?_
    simp (disch := omega) only [VW, VY, VZ, VA, VB, VC, VE, TY, ↓reduceIte, Nat.reduceEqDiff, Nat.reduceAdd, Nat.reduceMul, Nat.reduceSub, Nat.reduceLeDiff, List.length_cons, List.length_nil, List.length_append, List.append_assoc, List.take_succ_cons, List.take_zero, List.drop_succ_cons, List.drop_zero, List.set_cons_zero, List.set_cons_succ, true_or, or_true, and_self, Bool.false_eq_true, Nat.le_refl, Option.bind_some, Option.map_some, Option.getD_some, Option.isSome_some, List.map_cons, List.map_nil, List.cons_append, List.nil_append, List.append_nil, List.getElem?_cons_zero, List.getElem?_cons_succ, eq_self, Int.reduceLT, Int.reduceLE, Int.reduceNeg, Int.reduceEq]
    exact hQ _ (E1.trans E2)
structure Pl where
  work : Wk
  taken : (List Tkn)
  deriving DecidableEq, Inhabited
instance : Rep Pl := Rep.iso (α := Wk × (List Tkn)) fun x => (x.work, x.taken)
theorem Pl.sz : Rep.sz Pl = 6 := rfl
instance : Giv Pl := Giv.iso (α := Wk × (List Tkn)) (fun (x : Pl) => (x.work, x.taken)) (⟨⟨[⟨(-7000000000000000101), [(-7000000000000000101)], [(-7000000000000000101)]⟩], [⟨(-7000000000000000101), [(-7000000000000000101)], [(-7000000000000000101)]⟩], [⟨(-7000000000000000101), [(-7000000000000000101)], [(-7000000000000000101)]⟩], [⟨(-7000000000000000101), [(-7000000000000000101)], [(-7000000000000000101)]⟩], (-7000000000000000101)⟩, [⟨(-7000000000000000101), ⟨(-7000000000000000101), [(-7000000000000000101)], [(-7000000000000000101)]⟩⟩]⟩ : Pl)
instance : Siz Pl := ⟨fun x => Siz.siz x.work + Siz.siz x.taken⟩
theorem here_Pl {h : Heap} {x : Pl} {cs : List Value} (hr : Here h x cs) : ∃ v1 v2 v3 v4 v5, cs = [v1, v2, v3, v4, .int .i64 x.work.steps, v5] ∧ Row h x.work.opened v1 ∧ Row h x.work.free v2 ∧ Row h x.work.holds v3 ∧ Row h x.work.kept v4 ∧ inI64 x.work.steps ∧ Row h x.taken v5 := by
  have hrp : Here (α := Wk × (List Tkn)) h (x.work, x.taken) _ := hr
  obtain ⟨c1, d1, rfl, q1, r1⟩ := here_pair hrp
  have q1p : Here (α := (List Bx) × (List Bx) × (List Bx) × (List Bx) × Int) h (x.work.opened, x.work.free, x.work.holds, x.work.kept, x.work.steps) _ := q1
  obtain ⟨c2, d2, rfl, q2, r2⟩ := here_pair q1p
  obtain ⟨w3, rfl, f3⟩ := here_list q2
  obtain ⟨c4, d4, rfl, q4, r4⟩ := here_pair r2
  obtain ⟨w5, rfl, f5⟩ := here_list q4
  obtain ⟨c6, d6, rfl, q6, r6⟩ := here_pair r4
  obtain ⟨w7, rfl, f7⟩ := here_list q6
  obtain ⟨c8, d8, rfl, q8, r8⟩ := here_pair r6
  obtain ⟨w9, rfl, f9⟩ := here_list q8
  obtain ⟨rfl, f10⟩ := here_int r8
  obtain ⟨w11, rfl, f11⟩ := here_list r1
  exact ⟨w3, w5, w7, w9, w11, rfl, f3, f5, f7, f9, f10, f11⟩
theorem giv_Pl {h : Heap} {x : Pl} {cs : List Value} (hr : GivH h x cs) : ∃ v1 v2 v3 v4 v5, cs = [v1, v2, v3, v4, .int .i64 x.work.steps, v5] ∧ GivH h x.work.opened [v1] ∧ GivH h x.work.free [v2] ∧ GivH h x.work.holds [v3] ∧ GivH h x.work.kept [v4] ∧ inI64 x.work.steps ∧ GivH h x.taken [v5] := by
  have hrp : GivH (α := Wk × (List Tkn)) h (x.work, x.taken) _ := hr
  obtain ⟨c1, d1, rfl, q1, r1⟩ := giv_pair hrp
  have q1p : GivH (α := (List Bx) × (List Bx) × (List Bx) × (List Bx) × Int) h (x.work.opened, x.work.free, x.work.holds, x.work.kept, x.work.steps) _ := q1
  obtain ⟨c2, d2, rfl, q2, r2⟩ := giv_pair q1p
  obtain ⟨w3, rfl, f3⟩ := giv_list q2
  obtain ⟨c4, d4, rfl, q4, r4⟩ := giv_pair r2
  obtain ⟨w5, rfl, f5⟩ := giv_list q4
  obtain ⟨c6, d6, rfl, q6, r6⟩ := giv_pair r4
  obtain ⟨w7, rfl, f7⟩ := giv_list q6
  obtain ⟨c8, d8, rfl, q8, r8⟩ := giv_pair r6
  obtain ⟨w9, rfl, f9⟩ := giv_list q8
  obtain ⟨rfl, f10⟩ := giv_int r8
  obtain ⟨w11, rfl, f11⟩ := giv_list r1
  exact ⟨w3, w5, w7, w9, w11, rfl, f3, f5, f7, f9, f10, f11⟩
theorem mk_Pl {h : Heap} {x : Pl} {v1 v2 v3 v4 v5 : Value} (h1 : Row h x.work.opened v1) (h2 : Row h x.work.free v2) (h3 : Row h x.work.holds v3) (h4 : Row h x.work.kept v4) (h5 : inI64 x.work.steps) (h6 : Row h x.taken v5) : Here h x [v1, v2, v3, v4, .int .i64 x.work.steps, v5] := (mk_pair (p := (x.work, x.taken)) (mk_pair (p := (x.work.opened, (x.work.free, (x.work.holds, (x.work.kept, x.work.steps))))) (mk_list h1) (mk_pair (p := (x.work.free, (x.work.holds, (x.work.kept, x.work.steps)))) (mk_list h2) (mk_pair (p := (x.work.holds, (x.work.kept, x.work.steps))) (mk_list h3) (mk_pair (p := (x.work.kept, x.work.steps)) (mk_list h4) (mk_int h5))))) (mk_list h6))
theorem mkg_Pl {h : Heap} {x : Pl} {v1 v2 v3 v4 v5 : Value} (h1 : GivH h x.work.opened [v1]) (h2 : GivH h x.work.free [v2]) (h3 : GivH h x.work.holds [v3]) (h4 : GivH h x.work.kept [v4]) (h5 : inI64 x.work.steps) (h6 : GivH h x.taken [v5]) : GivH h x [v1, v2, v3, v4, .int .i64 x.work.steps, v5] := (mkg_pair (p := (x.work, x.taken)) (mkg_pair (p := (x.work.opened, (x.work.free, (x.work.holds, (x.work.kept, x.work.steps))))) h1 (mkg_pair (p := (x.work.free, (x.work.holds, (x.work.kept, x.work.steps)))) h2 (mkg_pair (p := (x.work.holds, (x.work.kept, x.work.steps))) h3 (mkg_pair (p := (x.work.kept, x.work.steps)) h4 (mkg_int h5))))) h6)
theorem at_Pl {h : Heap} {b off : Nat} {x : Pl} (hp : At h b off x) : ∃ v1 v2 v3 v4 v5, getC h b off = some (v1) ∧ getC h b (off + 1) = some (v2) ∧ getC h b (off + 2) = some (v3) ∧ getC h b (off + 3) = some (v4) ∧ getC h b (off + 4) = some (.int .i64 x.work.steps) ∧ getC h b (off + 5) = some (v5) ∧ Row h x.work.opened v1 ∧ Row h x.work.free v2 ∧ Row h x.work.holds v3 ∧ Row h x.work.kept v4 ∧ inI64 x.work.steps ∧ Row h x.taken v5 ∧ cellsAt h b off 6 = some [v1, v2, v3, v4, .int .i64 x.work.steps, v5] := by
  obtain ⟨cs, hc, hr⟩ := hp
  rw [Pl.sz] at hc
  obtain ⟨w1, w2, w3, w4, w5, rfl, f1, f2, f3, f4, f5, f6⟩ := here_Pl hr
  exact ⟨w1, w2, w3, w4, w5, cellsAt_getC hc 0 (by decide), cellsAt_getC hc 1 (by decide), cellsAt_getC hc 2 (by decide), cellsAt_getC hc 3 (by decide), cellsAt_getC hc 4 (by decide), cellsAt_getC hc 5 (by decide), f1, f2, f3, f4, f5, f6, hc⟩
theorem zero_Pl (h : Heap) : Rep.rep h (⟨⟨[], [], [], [], 0⟩, []⟩ : Pl) [.slice none 0 0, .slice none 0 0, .slice none 0 0, .slice none 0 0, .int .i64 0, .slice none 0 0] [] := (rep_pair0 (p := ((⟨[], [], [], [], 0⟩, []) : (Wk × (List Tkn)))) (rep_pair0 (p := (([], ([], ([], ([], 0)))) : ((List Bx) × ((List Bx) × ((List Bx) × ((List Bx) × Int)))))) (rep_nil (h := h)) (rep_pair0 (p := (([], ([], ([], 0))) : ((List Bx) × ((List Bx) × ((List Bx) × Int))))) (rep_nil (h := h)) (rep_pair0 (p := (([], ([], 0)) : ((List Bx) × ((List Bx) × Int)))) (rep_nil (h := h)) (rep_pair0 (p := (([], 0) : ((List Bx) × Int))) (rep_nil (h := h)) (rep_int (h := h) ⟨by decide, by decide⟩))))) (rep_nil (h := h)))
theorem szPool_c {x : Pl} {cs : List Value} {left : Int} {h : Heap} {Q : Value → Heap → Prop} (hx : Here h x cs) (h0 : 0 ≤ left) (h1 : left ≤ 1000000)
    (hQ : ∀ h', Ext h h' → Q (.int .i64 (szR left (Siz.siz x))) h') : CallsV Try.prog 26 [.agg cs.toArray, .int .i64 left] h Q := by
  have hs : Siz.siz x = Siz.siz x.work + Siz.siz x.taken := rfl
  obtain ⟨v1, v2, v3, v4, v5, rfl, vf1, vf2, vf3, vf4, vf5, vf6⟩ := here_Pl hx
  refine CallsV.start Try.func26 rfl (by rw [Try.results26]) (by kernel_rfl) (by rw [Try.ntmps26]; simp) ?_
  have s := Sep.blk1 h [v1, v2, v3, v4, .int .i64 x.work.steps, v5] 55 true
  simp (disch := omega) only [VW, VY, VZ, VA, VB, VC, VE, TY, ↓reduceIte, Nat.reduceEqDiff, Nat.reduceAdd, Nat.reduceMul, Nat.reduceSub, Nat.reduceLeDiff, List.length_cons, List.length_nil, List.length_append, List.append_assoc, List.take_succ_cons, List.take_zero, List.drop_succ_cons, List.drop_zero, List.set_cons_zero, List.set_cons_succ, true_or, or_true, and_self, Bool.false_eq_true, Nat.le_refl, Option.bind_some, Option.map_some, Option.getD_some, Option.isSome_some, List.map_cons, List.map_nil, List.cons_append, List.nil_append, List.append_nil, List.getElem?_cons_zero, List.getElem?_cons_succ, eq_self, Int.reduceLT, Int.reduceLE, Int.reduceNeg, Int.reduceEq]
  refine .inl ⟨by kernel_rfl, ?_⟩; refine szWork_c (mk_Wk (vf1.mono s.ext) (vf2.mono s.ext) (vf3.mono s.ext) (vf4.mono s.ext) vf5) (by omega) (by omega) fun h1 E1 => ?_
  have s := s.mono E1
  have g := s.rd
  by_cases c1 : left < (Siz.siz x.work : Int)
  · rw [szR_lt c1]
    simp (disch := omega) only [VW, VY, VZ, VA, VB, VC, VE, TY, ↓reduceIte, Nat.reduceEqDiff, Nat.reduceAdd, Nat.reduceMul, Nat.reduceSub, Nat.reduceLeDiff, List.length_cons, List.length_nil, List.length_append, List.append_assoc, List.take_succ_cons, List.take_zero, List.drop_succ_cons, List.drop_zero, List.set_cons_zero, List.set_cons_succ, true_or, or_true, and_self, Bool.false_eq_true, Nat.le_refl, Option.bind_some, Option.map_some, Option.getD_some, Option.isSome_some, List.map_cons, List.map_nil, List.cons_append, List.nil_append, List.append_nil, List.getElem?_cons_zero, List.getElem?_cons_succ, eq_self, Int.reduceLT, Int.reduceLE, Int.reduceNeg, Int.reduceEq]
    rw [szR_lt (by omega)] at hQ
    exact hQ _ s.ext
  · rw [szR_ge c1]
    have c' : ¬ left - (Siz.siz x.work : Int) < 0 := by omega
    simp (disch := omega) only [VW, VY, VZ, VA, VB, VC, VE, TY, ↓reduceIte, Nat.reduceEqDiff, Nat.reduceAdd, Nat.reduceMul, Nat.reduceSub, Nat.reduceLeDiff, List.length_cons, List.length_nil, List.length_append, List.append_assoc, List.take_succ_cons, List.take_zero, List.drop_succ_cons, List.drop_zero, List.set_cons_zero, List.set_cons_succ, true_or, or_true, and_self, Bool.false_eq_true, Nat.le_refl, Option.bind_some, Option.map_some, Option.getD_some, Option.isSome_some, List.map_cons, List.map_nil, List.cons_append, List.nil_append, List.append_nil, List.getElem?_cons_zero, List.getElem?_cons_succ, eq_self, Int.reduceLT, Int.reduceLE, Int.reduceNeg, Int.reduceEq, c', g]
    refine .inl ⟨by kernel_rfl, ?_⟩; refine szTakenS_c (vf6.mono s.ext) (by omega) (by omega) fun h2 E2 => ?_
    have s := s.mono E2
    have g := s.rd
    by_cases c2 : left - (Siz.siz x.work : Int) < (Siz.siz x.taken : Int)
    · rw [szR_lt c2]
      simp (disch := omega) only [VW, VY, VZ, VA, VB, VC, VE, TY, ↓reduceIte, Nat.reduceEqDiff, Nat.reduceAdd, Nat.reduceMul, Nat.reduceSub, Nat.reduceLeDiff, List.length_cons, List.length_nil, List.length_append, List.append_assoc, List.take_succ_cons, List.take_zero, List.drop_succ_cons, List.drop_zero, List.set_cons_zero, List.set_cons_succ, true_or, or_true, and_self, Bool.false_eq_true, Nat.le_refl, Option.bind_some, Option.map_some, Option.getD_some, Option.isSome_some, List.map_cons, List.map_nil, List.cons_append, List.nil_append, List.append_nil, List.getElem?_cons_zero, List.getElem?_cons_succ, eq_self, Int.reduceLT, Int.reduceLE, Int.reduceNeg, Int.reduceEq]
      rw [szR_lt (by omega)] at hQ
      exact hQ _ s.ext
    · rw [szR_ge c2]
      have c' : ¬ left - (Siz.siz x.work : Int) - (Siz.siz x.taken : Int) < 0 := by omega
      simp (disch := omega) only [VW, VY, VZ, VA, VB, VC, VE, TY, ↓reduceIte, Nat.reduceEqDiff, Nat.reduceAdd, Nat.reduceMul, Nat.reduceSub, Nat.reduceLeDiff, List.length_cons, List.length_nil, List.length_append, List.append_assoc, List.take_succ_cons, List.take_zero, List.drop_succ_cons, List.drop_zero, List.set_cons_zero, List.set_cons_succ, true_or, or_true, and_self, Bool.false_eq_true, Nat.le_refl, Option.bind_some, Option.map_some, Option.getD_some, Option.isSome_some, List.map_cons, List.map_nil, List.cons_append, List.nil_append, List.append_nil, List.getElem?_cons_zero, List.getElem?_cons_succ, eq_self, Int.reduceLT, Int.reduceLE, Int.reduceNeg, Int.reduceEq, c', g]
      rw [szR_ge (by omega)] at hQ
      have e : left - (Siz.siz x : Int) = left - (Siz.siz x.work : Int) - (Siz.siz x.taken : Int) := by omega
      rw [e] at hQ
      exact hQ _ s.ext
theorem toPool_c {x : Pl} {b : Bool} {cs : List Value} {h : Heap} {Q : Value → Heap → Prop} (hx : Here h x cs) (hn : Siz.siz x ≤ 1000000)
    (hQ : ∀ cs' h', Sep h h' [givA b x cs'] → Q (.agg cs'.toArray) h') : CallsV Try.prog 28 [.agg cs.toArray, .bool b] h Q := by
  have hs : Siz.siz x = Siz.siz x.work + Siz.siz x.taken := rfl
  obtain ⟨v1, v2, v3, v4, v5, rfl, vf1, vf2, vf3, vf4, vf5, vf6⟩ := here_Pl hx
  refine CallsV.start Try.func28 rfl (by rw [Try.results28]) (by kernel_rfl) (by rw [Try.ntmps28]; simp) ?_
  simp (disch := omega) only [VW, VY, VZ, VA, VB, VC, VE, TY, ↓reduceIte, Nat.reduceEqDiff, Nat.reduceAdd, Nat.reduceMul, Nat.reduceSub, Nat.reduceLeDiff, List.length_cons, List.length_nil, List.length_append, List.append_assoc, List.take_succ_cons, List.take_zero, List.drop_succ_cons, List.drop_zero, List.set_cons_zero, List.set_cons_succ, true_or, or_true, and_self, Bool.false_eq_true, Nat.le_refl, Option.bind_some, Option.map_some, Option.getD_some, Option.isSome_some, List.map_cons, List.map_nil, List.cons_append, List.nil_append, List.append_nil, List.getElem?_cons_zero, List.getElem?_cons_succ, eq_self, Int.reduceLT, Int.reduceLE, Int.reduceNeg, Int.reduceEq]
  have s := Sep.blk3 h [v1, v2, v3, v4, .int .i64 x.work.steps, v5] [.slice none 0 0, .slice none 0 0, .slice none 0 0, .slice none 0 0, .int .i64 0, .slice none 0 0] [.slice none 0 0, .slice none 0 0, .slice none 0 0, .slice none 0 0, .int .i64 0, .slice none 0 0] 55 60 60 true true true
  refine .inl ⟨by kernel_rfl, ?_⟩; refine toWork_c (b := b) (mk_Wk (vf1.mono s.ext) (vf2.mono s.ext) (vf3.mono s.ext) (vf4.mono s.ext) vf5) (by omega) fun w1 h1 s1 => ?_
  have l1 : w1.length = 5 := s1.gpull
  have s := s.add s1
  simp (disch := omega) only [VW, VY, VZ, VA, VB, VC, VE, TY, ↓reduceIte, Nat.reduceEqDiff, Nat.reduceAdd, Nat.reduceMul, Nat.reduceSub, Nat.reduceLeDiff, List.length_cons, List.length_nil, List.length_append, List.append_assoc, List.take_succ_cons, List.take_zero, List.drop_succ_cons, List.drop_zero, List.set_cons_zero, List.set_cons_succ, true_or, or_true, and_self, Bool.false_eq_true, Nat.le_refl, Option.bind_some, Option.map_some, Option.getD_some, Option.isSome_some, List.map_cons, List.map_nil, List.cons_append, List.nil_append, List.append_nil, List.getElem?_cons_zero, List.getElem?_cons_succ, eq_self, Int.reduceLT, Int.reduceLE, Int.reduceNeg, Int.reduceEq, l1]
  refine sep_store (s.pull 1 rfl) (by simp [l1]) fun h1' s => ?_
  have s := s.as (ds := w1 ++ [.slice none 0 0]) (by simp [t_put, l1])
  have g := (s.pull 3 rfl).rd
  simp (disch := omega) only [VW, VY, VZ, VA, VB, VC, VE, TY, ↓reduceIte, Nat.reduceEqDiff, Nat.reduceAdd, Nat.reduceMul, Nat.reduceSub, Nat.reduceLeDiff, List.length_cons, List.length_nil, List.length_append, List.append_assoc, List.take_succ_cons, List.take_zero, List.drop_succ_cons, List.drop_zero, List.set_cons_zero, List.set_cons_succ, true_or, or_true, and_self, Bool.false_eq_true, Nat.le_refl, Option.bind_some, Option.map_some, Option.getD_some, Option.isSome_some, List.map_cons, List.map_nil, List.cons_append, List.nil_append, List.append_nil, List.getElem?_cons_zero, List.getElem?_cons_succ, eq_self, Int.reduceLT, Int.reduceLE, Int.reduceNeg, Int.reduceEq, g, l1]
  refine .inl ⟨by kernel_rfl, ?_⟩; refine toTakenS_c (vf6.mono s.ext) (by omega) fun w2 h2 s2 => ?_
  have l2 := s2.gRep.rowR.isRow.cells
  have s := s.add s2
  simp (disch := omega) only [VW, VY, VZ, VA, VB, VC, VE, TY, ↓reduceIte, Nat.reduceEqDiff, Nat.reduceAdd, Nat.reduceMul, Nat.reduceSub, Nat.reduceLeDiff, List.length_cons, List.length_nil, List.length_append, List.append_assoc, List.take_succ_cons, List.take_zero, List.drop_succ_cons, List.drop_zero, List.set_cons_zero, List.set_cons_succ, true_or, or_true, and_self, Bool.false_eq_true, Nat.le_refl, Option.bind_some, Option.map_some, Option.getD_some, Option.isSome_some, List.map_cons, List.map_nil, List.cons_append, List.nil_append, List.append_nil, List.getElem?_cons_zero, List.getElem?_cons_succ, eq_self, Int.reduceLT, Int.reduceLE, Int.reduceNeg, Int.reduceEq, g, l1, l2]
  refine sep_store (s.pull 1 rfl) (by simp [l1, l2]) fun h2' s => ?_
  have s := s.as (ds := w1 ++ [w2]) (by simp [t_put, l1, l2])
  have g := (s.pull 4 rfl).rd
  have ga := s.rdAll (n := 6) (by simp [l1, l2])
  simp (disch := omega) only [VW, VY, VZ, VA, VB, VC, VE, TY, ↓reduceIte, Nat.reduceEqDiff, Nat.reduceAdd, Nat.reduceMul, Nat.reduceSub, Nat.reduceLeDiff, List.length_cons, List.length_nil, List.length_append, List.append_assoc, List.take_succ_cons, List.take_zero, List.drop_succ_cons, List.drop_zero, List.set_cons_zero, List.set_cons_succ, true_or, or_true, and_self, Bool.false_eq_true, Nat.le_refl, Option.bind_some, Option.map_some, Option.getD_some, Option.isSome_some, List.map_cons, List.map_nil, List.cons_append, List.nil_append, List.append_nil, List.getElem?_cons_zero, List.getElem?_cons_succ, eq_self, Int.reduceLT, Int.reduceLE, Int.reduceNeg, Int.reduceEq, ga, l1, l2]
  refine sep_store (s.pull 3 rfl) (by simp [l1, l2]) fun hz s => ?_
  have s := s.as (ds := w1 ++ [w2]) (by simp [t_put, l1, l2])
  have ga := s.rdAll (n := 6) (by simp [l1, l2])
  simp (disch := omega) only [VW, VY, VZ, VA, VB, VC, VE, TY, ↓reduceIte, Nat.reduceEqDiff, Nat.reduceAdd, Nat.reduceMul, Nat.reduceSub, Nat.reduceLeDiff, List.length_cons, List.length_nil, List.length_append, List.append_assoc, List.take_succ_cons, List.take_zero, List.drop_succ_cons, List.drop_zero, List.set_cons_zero, List.set_cons_succ, true_or, or_true, and_self, Bool.false_eq_true, Nat.le_refl, Option.bind_some, Option.map_some, Option.getD_some, Option.isSome_some, List.map_cons, List.map_nil, List.cons_append, List.nil_append, List.append_nil, List.getElem?_cons_zero, List.getElem?_cons_succ, eq_self, Int.reduceLT, Int.reduceLE, Int.reduceNeg, Int.reduceEq, ga]
  have s := s.tail.tail
  have s := Sep.gpair (Sep.swap s)
  exact hQ _ _ s.head
theorem intactPool_c {x : Pl} {cs ds : List Value} {h : Heap} {Q : Value → Heap → Prop} (hx : GivH h x cs) (hy : GivH h x ds) (hn : Siz.siz x ≤ 1000000)
    (hQ : ∀ h', Ext h h' → Q (.bool true) h') : CallsV Try.prog 30 [.agg cs.toArray, .agg ds.toArray] h Q := by
  have hs : Siz.siz x = Siz.siz x.work + Siz.siz x.taken := rfl
  obtain ⟨v1, v2, v3, v4, v5, rfl, vf1, vf2, vf3, vf4, vf5, vf6⟩ := giv_Pl hx
  obtain ⟨u1, u2, u3, u4, u5, rfl, uf1, uf2, uf3, uf4, uf5, uf6⟩ := giv_Pl hy
  refine CallsV.start Try.func30 rfl (by rw [Try.results30]) (by kernel_rfl) (by rw [Try.ntmps30]; simp) ?_
  have s := Sep.blk2 h [v1, v2, v3, v4, .int .i64 x.work.steps, v5] [u1, u2, u3, u4, .int .i64 x.work.steps, u5] 60 60 true true
  simp (disch := omega) only [VW, VY, VZ, VA, VB, VC, VE, TY, ↓reduceIte, Nat.reduceEqDiff, Nat.reduceAdd, Nat.reduceMul, Nat.reduceSub, Nat.reduceLeDiff, List.length_cons, List.length_nil, List.length_append, List.append_assoc, List.take_succ_cons, List.take_zero, List.drop_succ_cons, List.drop_zero, List.set_cons_zero, List.set_cons_succ, true_or, or_true, and_self, Bool.false_eq_true, Nat.le_refl, Option.bind_some, Option.map_some, Option.getD_some, Option.isSome_some, List.map_cons, List.map_nil, List.cons_append, List.nil_append, List.append_nil, List.getElem?_cons_zero, List.getElem?_cons_succ, eq_self, Int.reduceLT, Int.reduceLE, Int.reduceNeg, Int.reduceEq]
  refine .inl ⟨by kernel_rfl, ?_⟩; refine intactWork_c (mkg_Wk (vf1.mono s.ext) (vf2.mono s.ext) (vf3.mono s.ext) (vf4.mono s.ext) vf5) (mkg_Wk (uf1.mono s.ext) (uf2.mono s.ext) (uf3.mono s.ext) (uf4.mono s.ext) uf5) (by omega) fun h1 E1 => ?_
  have s := s.mono E1
  have g1 := s.rd
  have g2 := s.tail.rd
  simp (disch := omega) only [VW, VY, VZ, VA, VB, VC, VE, TY, ↓reduceIte, Nat.reduceEqDiff, Nat.reduceAdd, Nat.reduceMul, Nat.reduceSub, Nat.reduceLeDiff, List.length_cons, List.length_nil, List.length_append, List.append_assoc, List.take_succ_cons, List.take_zero, List.drop_succ_cons, List.drop_zero, List.set_cons_zero, List.set_cons_succ, true_or, or_true, and_self, Bool.false_eq_true, Nat.le_refl, Option.bind_some, Option.map_some, Option.getD_some, Option.isSome_some, List.map_cons, List.map_nil, List.cons_append, List.nil_append, List.append_nil, List.getElem?_cons_zero, List.getElem?_cons_succ, eq_self, Int.reduceLT, Int.reduceLE, Int.reduceNeg, Int.reduceEq, g1, g2]
  refine .inl ⟨by kernel_rfl, ?_⟩; refine intactTakenS_c (vf6.mono s.ext) (uf6.mono s.ext) (by omega) fun h2 E2 => ?_
  have s := s.mono E2
  have g1 := s.rd
  have g2 := s.tail.rd
  simp (disch := omega) only [VW, VY, VZ, VA, VB, VC, VE, TY, ↓reduceIte, Nat.reduceEqDiff, Nat.reduceAdd, Nat.reduceMul, Nat.reduceSub, Nat.reduceLeDiff, List.length_cons, List.length_nil, List.length_append, List.append_assoc, List.take_succ_cons, List.take_zero, List.drop_succ_cons, List.drop_zero, List.set_cons_zero, List.set_cons_succ, true_or, or_true, and_self, Bool.false_eq_true, Nat.le_refl, Option.bind_some, Option.map_some, Option.getD_some, Option.isSome_some, List.map_cons, List.map_nil, List.cons_append, List.nil_append, List.append_nil, List.getElem?_cons_zero, List.getElem?_cons_succ, eq_self, Int.reduceLT, Int.reduceLE, Int.reduceNeg, Int.reduceEq, g1, g2]
  exact hQ _ s.ext
end Go.Proofs

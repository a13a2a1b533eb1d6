/- Contracts of functions, facts of types, or the plain law behind one statement (own work): K2. Conditions: those told in each theorem. -/
import Derived.Test.YtiiolloielppeaaK1
import Derived.Test.YtiiolloielppeaaH4
set_option linter.all false
set_option linter.unusedSimpArgs false
set_option linter.unusedVariables false
set_option maxRecDepth 4000
namespace Go.Proofs
open Go Go.V
instance : Mrk Bx := ⟨fun x k => ⟨x.k, Mrk.bmk x.low (k), Mrk.bmk x.high (k + (Mrk.cnt x.low : Nat))⟩, fun x => Mrk.cnt x.low + Mrk.cnt x.high, fun x k => ⟨Mrk.emk x.k (k), Mrk.emk x.low (k + (Mrk.ecnt x.k : Nat)), Mrk.emk x.high (k + (Mrk.ecnt x.k : Nat) + (Mrk.ecnt x.low : Nat))⟩, fun x => Mrk.ecnt x.k + Mrk.ecnt x.low + Mrk.ecnt x.high⟩
instance : CntB Bx := ⟨fun x => by
    have := CntB.c x.k
    have := CntB.c x.low
    have := CntB.c x.high
    show Mrk.cnt x.low + Mrk.cnt x.high ≤ 8 * (Siz.siz x.k + Siz.siz x.low + Siz.siz x.high)
    omega, fun x => by
    have := CntB.e x.k
    have := CntB.c x.low
    have := CntB.c x.high
    have he : Mrk.ecnt x = (1 + cntL x.low + cntL x.high) := rfl
    have hz : Siz.siz x = Siz.siz x.k + Siz.siz x.low + Siz.siz x.high := rfl
    have := cntL_le x.low
    have := cntL_le x.high
    have : Siz.siz x.k = 0 := rfl
    omega⟩
theorem markBoxS_c {l : List Bx} {v : Value} {k : Int} {a h : Heap} {L : List Asr} {Q : Value → Heap → Prop} (s : Sep a h (repA l [v] :: L)) (k0 : 0 ≤ k) (hk : k + (cntL l : Nat) ≤ 1000000000000000)
    (hQ : ∀ h', Sep a h' (repA (mkL l k) [v] :: L) → Q (.int .i64 (k + (cntL l : Nat))) h') : CallsV Try.prog 37 [v, .int .i64 k] h Q := by
  refine CallsV.start Try.func37 rfl (by rw [Try.results37]) (by kernel_rfl) (by rw [Try.ntmps37]; simp) ?_
  have hle := s.rowR.le
  simp (disch := omega) only [VW, VY, VZ, VA, VB, VC, VE, TY, ↓reduceIte, Nat.reduceEqDiff, Nat.reduceAdd, Nat.reduceMul, Nat.reduceSub, Nat.reduceLeDiff, List.length_cons, List.length_nil, List.length_append, List.append_assoc, List.take_succ_cons, List.take_zero, List.drop_succ_cons, List.drop_zero, List.set_cons_zero, List.set_cons_succ, true_or, or_true, and_self, Bool.false_eq_true, Nat.le_refl, Option.bind_some, Option.map_some, Option.getD_some, Option.isSome_some, List.map_cons, List.map_nil, List.cons_append, List.nil_append, List.append_nil, List.getElem?_cons_zero, List.getElem?_cons_succ, eq_self, Int.reduceLT, Int.reduceLE, Int.reduceNeg, Int.reduceEq]
  refine loop_rule (fun n e h' => ∃ (i : Nat), e 0 = v ∧ e 1 = .int .i64 (k + (cntL (l.take i) : Nat)) ∧ e 5 = .int .i64 i ∧ i ≤ l.length ∧ n = l.length - i ∧ Sep a h' (repA (mkL (l.take i) k ++ l.drop i) [v] :: L)) ?_ l.length _ _ ⟨0, rfl, by simp [upd, cntL, startEnv], rfl, Nat.zero_le _, rfl, by simpa [mkL] using s⟩
  rintro n e h1 ⟨i, e0, e1, ei, hi, rfl, s⟩
  have hlen := mkP_length l k hi
  have ro := s.rowR.isRow
  rw [hlen] at ro
  simp (disch := omega) only [VW, VY, VZ, VA, VB, VC, VE, TY, ↓reduceIte, Nat.reduceEqDiff, Nat.reduceAdd, Nat.reduceMul, Nat.reduceSub, Nat.reduceLeDiff, List.length_cons, List.length_nil, List.length_append, List.append_assoc, List.take_succ_cons, List.take_zero, List.drop_succ_cons, List.drop_zero, List.set_cons_zero, List.set_cons_succ, true_or, or_true, and_self, Bool.false_eq_true, Nat.le_refl, Option.bind_some, Option.map_some, Option.getD_some, Option.isSome_some, List.map_cons, List.map_nil, List.cons_append, List.nil_append, List.append_nil, List.getElem?_cons_zero, List.getElem?_cons_succ, eq_self, Int.reduceLT, Int.reduceLE, Int.reduceNeg, Int.reduceEq, e0, ei, ro.len]
  by_cases hlt : i < l.length
  · obtain ⟨x, hx⟩ := get_some hlt
    have c1 : (i : Int) < (l.length : Int) := by omega
    have ct := cntL_take hx
    have cl := cntL_take_le l (i + 1)
    have hset := mkP_set hx k
    obtain ⟨cs, x3, s⟩ := s.focus (mkP_get hx k)
    have ec : Mrk.ecnt x = (1 + cntL x.low + cntL x.high) := rfl
    generalize hK : k + (cntL (l.take i) : Nat) = K at *
    have kb : 0 ≤ K ∧ K + (Mrk.ecnt x : Nat) ≤ 1000000000000000 := by omega
    have hd : ∀ (hp : Heap) (M : List Asr), Sep a hp (repA (Mrk.emk x K) cs :: holeA (mkL (l.take i) k ++ l.drop i) v i cs :: M) → True := fun _ _ _ => trivial
    clear hd
    obtain ⟨ce2, de2, rfl, sq2⟩ := Sep.unpair (α := Int) (β := (List Int) × (List Int)) (x := x.k) (y := (x.low, x.high)) s
    have s := sq2
    obtain ⟨rfl, fe3⟩ := here_int s.here
    have s := s.tail
    obtain ⟨ce4, de4, rfl, sq4⟩ := Sep.unpair (α := (List Int)) (β := (List Int)) (x := x.low) (y := (x.high)) s
    have s := sq4
    obtain ⟨we5, rfl, fe5⟩ := here_list s.here
    have s := s.pull 1 rfl
    obtain ⟨we6, rfl, fe6⟩ := here_list s.here
    simp (disch := omega) only [VW, VY, VZ, VA, VB, VC, VE, TY, ↓reduceIte, Nat.reduceEqDiff, Nat.reduceAdd, Nat.reduceMul, Nat.reduceSub, Nat.reduceLeDiff, List.length_cons, List.length_nil, List.length_append, List.append_assoc, List.take_succ_cons, List.take_zero, List.drop_succ_cons, List.drop_zero, List.set_cons_zero, List.set_cons_succ, true_or, or_true, and_self, Bool.false_eq_true, Nat.le_refl, Option.bind_some, Option.map_some, Option.getD_some, Option.isSome_some, List.map_cons, List.map_nil, List.cons_append, List.nil_append, List.append_nil, List.getElem?_cons_zero, List.getElem?_cons_succ, eq_self, Int.reduceLT, Int.reduceLE, Int.reduceNeg, Int.reduceEq, e0, e1, ei, c1, ro.ix]
    have s := s.pull 2 rfl
    refine sep_hole (j := 0) s (by rfl) (by simp) fun h10 s => ?_
    have s := Sep.hcs (ds := [.int .i64 (K), we5, we6]) s rfl
    simp (disch := omega) only [VW, VY, VZ, VA, VB, VC, VE, TY, ↓reduceIte, Nat.reduceEqDiff, Nat.reduceAdd, Nat.reduceMul, Nat.reduceSub, Nat.reduceLeDiff, List.length_cons, List.length_nil, List.length_append, List.append_assoc, List.take_succ_cons, List.take_zero, List.drop_succ_cons, List.drop_zero, List.set_cons_zero, List.set_cons_succ, true_or, or_true, and_self, Bool.false_eq_true, Nat.le_refl, Option.bind_some, Option.map_some, Option.getD_some, Option.isSome_some, List.map_cons, List.map_nil, List.cons_append, List.nil_append, List.append_nil, List.getElem?_cons_zero, List.getElem?_cons_succ, eq_self, Int.reduceLT, Int.reduceLE, Int.reduceNeg, Int.reduceEq, e0, e1, ei, ro.ix, wrap_in]
    have g := s.hrd 1 (by simp) (o := rowO v + i * 3 + 1) (by rfl)
    simp (disch := omega) only [VW, VY, VZ, VA, VB, VC, VE, TY, ↓reduceIte, Nat.reduceEqDiff, Nat.reduceAdd, Nat.reduceMul, Nat.reduceSub, Nat.reduceLeDiff, List.length_cons, List.length_nil, List.length_append, List.append_assoc, List.take_succ_cons, List.take_zero, List.drop_succ_cons, List.drop_zero, List.set_cons_zero, List.set_cons_succ, true_or, or_true, and_self, Bool.false_eq_true, Nat.le_refl, Option.bind_some, Option.map_some, Option.getD_some, Option.isSome_some, List.map_cons, List.map_nil, List.cons_append, List.nil_append, List.append_nil, List.getElem?_cons_zero, List.getElem?_cons_succ, eq_self, Int.reduceLT, Int.reduceLE, Int.reduceNeg, Int.reduceEq, e0, e1, ei, ro.ix, g]
    have s := s.pull 2 rfl
    refine .inl ⟨by kernel_rfl, ?_⟩; refine markIntS_c s (by omega) (by omega) fun h11 s => ?_
    simp (disch := omega) only [VW, VY, VZ, VA, VB, VC, VE, TY, ↓reduceIte, Nat.reduceEqDiff, Nat.reduceAdd, Nat.reduceMul, Nat.reduceSub, Nat.reduceLeDiff, List.length_cons, List.length_nil, List.length_append, List.append_assoc, List.take_succ_cons, List.take_zero, List.drop_succ_cons, List.drop_zero, List.set_cons_zero, List.set_cons_succ, true_or, or_true, and_self, Bool.false_eq_true, Nat.le_refl, Option.bind_some, Option.map_some, Option.getD_some, Option.isSome_some, List.map_cons, List.map_nil, List.cons_append, List.nil_append, List.append_nil, List.getElem?_cons_zero, List.getElem?_cons_succ, eq_self, Int.reduceLT, Int.reduceLE, Int.reduceNeg, Int.reduceEq, e0, e1, ei, ro.ix, wrap_in]
    have s := s.pull 1 rfl
    have g := s.hrd 2 (by simp) (o := rowO v + i * 3 + 2) (by rfl)
    simp (disch := omega) only [VW, VY, VZ, VA, VB, VC, VE, TY, ↓reduceIte, Nat.reduceEqDiff, Nat.reduceAdd, Nat.reduceMul, Nat.reduceSub, Nat.reduceLeDiff, List.length_cons, List.length_nil, List.length_append, List.append_assoc, List.take_succ_cons, List.take_zero, List.drop_succ_cons, List.drop_zero, List.set_cons_zero, List.set_cons_succ, true_or, or_true, and_self, Bool.false_eq_true, Nat.le_refl, Option.bind_some, Option.map_some, Option.getD_some, Option.isSome_some, List.map_cons, List.map_nil, List.cons_append, List.nil_append, List.append_nil, List.getElem?_cons_zero, List.getElem?_cons_succ, eq_self, Int.reduceLT, Int.reduceLE, Int.reduceNeg, Int.reduceEq, e0, e1, ei, ro.ix, g]
    have s := s.pull 2 rfl
    refine .inl ⟨by kernel_rfl, ?_⟩; refine markIntS_c s (by omega) (by omega) fun h12 s => ?_
    simp (disch := omega) only [VW, VY, VZ, VA, VB, VC, VE, TY, ↓reduceIte, Nat.reduceEqDiff, Nat.reduceAdd, Nat.reduceMul, Nat.reduceSub, Nat.reduceLeDiff, List.length_cons, List.length_nil, List.length_append, List.append_assoc, List.take_succ_cons, List.take_zero, List.drop_succ_cons, List.drop_zero, List.set_cons_zero, List.set_cons_succ, true_or, or_true, and_self, Bool.false_eq_true, Nat.le_refl, Option.bind_some, Option.map_some, Option.getD_some, Option.isSome_some, List.map_cons, List.map_nil, List.cons_append, List.nil_append, List.append_nil, List.getElem?_cons_zero, List.getElem?_cons_succ, eq_self, Int.reduceLT, Int.reduceLE, Int.reduceNeg, Int.reduceEq, e0, e1, ei, ro.ix, wrap_in]
    have s := s.pull 2 rfl
    have s := Sep.pair s
    have s := Sep.rep0 (x := K) s (rep_int ⟨by omega, by omega⟩)
    have s := Sep.pair s
    have s := Sep.close (y := Mrk.emk x K) (cs := [.int .i64 (K), we5, we6]) s
    rw [hset] at s
    try simp (disch := omega) only [VW, VY, VZ, VA, VB, VC, VE, TY, ↓reduceIte, Nat.reduceEqDiff, Nat.reduceAdd, Nat.reduceMul, Nat.reduceSub, Nat.reduceLeDiff, List.length_cons, List.length_nil, List.length_append, List.append_assoc, List.take_succ_cons, List.take_zero, List.drop_succ_cons, List.drop_zero, List.set_cons_zero, List.set_cons_succ, true_or, or_true, and_self, Bool.false_eq_true, Nat.le_refl, Option.bind_some, Option.map_some, Option.getD_some, Option.isSome_some, List.map_cons, List.map_nil, List.cons_append, List.nil_append, List.append_nil, List.getElem?_cons_zero, List.getElem?_cons_succ, eq_self, Int.reduceLT, Int.reduceLE, Int.reduceNeg, Int.reduceEq, e0, e1, ei, wrap_in]
    exact ⟨_, by omega, i + 1, by congr 1; omega, by simp, by omega, rfl, s⟩
  · obtain rfl : i = l.length := by omega
    have c1 : ¬ (l.length : Int) < (l.length : Int) := by omega
    rw [List.take_length, List.drop_length, List.append_nil] at s
    rw [List.take_length] at e1
    simp (disch := omega) only [VW, VY, VZ, VA, VB, VC, VE, TY, ↓reduceIte, Nat.reduceEqDiff, Nat.reduceAdd, Nat.reduceMul, Nat.reduceSub, Nat.reduceLeDiff, List.length_cons, List.length_nil, List.length_append, List.append_assoc, List.take_succ_cons, List.take_zero, List.drop_succ_cons, List.drop_zero, List.set_cons_zero, List.set_cons_succ, true_or, or_true, and_self, Bool.false_eq_true, Nat.le_refl, Option.bind_some, Option.map_some, Option.getD_some, Option.isSome_some, List.map_cons, List.map_nil, List.cons_append, List.nil_append, List.append_nil, List.getElem?_cons_zero, List.getElem?_cons_succ, eq_self, Int.reduceLT, Int.reduceLE, Int.reduceNeg, Int.reduceEq, e0, e1, ei, c1]
    exact hQ _ s
theorem heldBoxS_c {l : List Bx} {v : Value} {k : Int} {h : Heap} {Q : Value → Heap → Prop} (hl : Row h (mkL l k) v) (k0 : 0 ≤ k) (hk : k + (cntL l : Nat) ≤ 1000000000000000)
    (hQ : ∀ h', Ext h h' → Q (.int .i64 (k + (cntL l : Nat))) h') : CallsV Try.prog 38 [v, .int .i64 k] h Q := by
  refine CallsV.start Try.func38 rfl (by rw [Try.results38]) (by kernel_rfl) (by rw [Try.ntmps38]; simp) ?_
  have hle := hl.le
  have ro := hl.isRow
  rw [mkL_length] at hle ro
  simp (disch := omega) only [VW, VY, VZ, VA, VB, VC, VE, TY, ↓reduceIte, Nat.reduceEqDiff, Nat.reduceAdd, Nat.reduceMul, Nat.reduceSub, Nat.reduceLeDiff, List.length_cons, List.length_nil, List.length_append, List.append_assoc, List.take_succ_cons, List.take_zero, List.drop_succ_cons, List.drop_zero, List.set_cons_zero, List.set_cons_succ, true_or, or_true, and_self, Bool.false_eq_true, Nat.le_refl, Option.bind_some, Option.map_some, Option.getD_some, Option.isSome_some, List.map_cons, List.map_nil, List.cons_append, List.nil_append, List.append_nil, List.getElem?_cons_zero, List.getElem?_cons_succ, eq_self, Int.reduceLT, Int.reduceLE, Int.reduceNeg, Int.reduceEq]
  refine loop_rule (fun n e h' => ∃ (i : Nat), e 0 = v ∧ e 1 = .int .i64 (k + (cntL (l.take i) : Nat)) ∧ e 5 = .int .i64 i ∧ i ≤ l.length ∧ n = l.length - i ∧ Ext h h') ?_ l.length _ _ ⟨0, rfl, by simp [upd, cntL, startEnv], rfl, Nat.zero_le _, rfl, .refl _⟩
  rintro n e h1 ⟨i, e0, e1, ei, hi, rfl, E1⟩
  simp (disch := omega) only [VW, VY, VZ, VA, VB, VC, VE, TY, ↓reduceIte, Nat.reduceEqDiff, Nat.reduceAdd, Nat.reduceMul, Nat.reduceSub, Nat.reduceLeDiff, List.length_cons, List.length_nil, List.length_append, List.append_assoc, List.take_succ_cons, List.take_zero, List.drop_succ_cons, List.drop_zero, List.set_cons_zero, List.set_cons_succ, true_or, or_true, and_self, Bool.false_eq_true, Nat.le_refl, Option.bind_some, Option.map_some, Option.getD_some, Option.isSome_some, List.map_cons, List.map_nil, List.cons_append, List.nil_append, List.append_nil, List.getElem?_cons_zero, List.getElem?_cons_succ, eq_self, Int.reduceLT, Int.reduceLE, Int.reduceNeg, Int.reduceEq, e0, ei, ro.len]
  by_cases hlt : i < l.length
  · obtain ⟨x, hx⟩ := get_some hlt
    have c1 : (i : Int) < (l.length : Int) := by omega
    have ct := cntL_take hx
    have cl := cntL_take_le l (i + 1)
    have hx' := mkL_get hx k
    have ec : Mrk.ecnt x = (1 + cntL x.low + cntL x.high) := rfl
    generalize hK : k + (cntL (l.take i) : Nat) = K at *
    have kb : 0 ≤ K ∧ K + (Mrk.ecnt x : Nat) ≤ 1000000000000000 := by omega
    have hl1 := hl.mono E1
    have hp := hl1.ptr hx'
    rw [Bx.sz] at hp
    obtain ⟨we1, we2, g0, g1, g2, fe1, fe2, fe3, _⟩ := at_Bx hp
    have g0 : getC h1 (rowB v) (rowO v + i * 3) = some (.int .i64 (K)) := g0
    simp (disch := omega) only [VW, VY, VZ, VA, VB, VC, VE, TY, ↓reduceIte, Nat.reduceEqDiff, Nat.reduceAdd, Nat.reduceMul, Nat.reduceSub, Nat.reduceLeDiff, List.length_cons, List.length_nil, List.length_append, List.append_assoc, List.take_succ_cons, List.take_zero, List.drop_succ_cons, List.drop_zero, List.set_cons_zero, List.set_cons_succ, true_or, or_true, and_self, Bool.false_eq_true, Nat.le_refl, Option.bind_some, Option.map_some, Option.getD_some, Option.isSome_some, List.map_cons, List.map_nil, List.cons_append, List.nil_append, List.append_nil, List.getElem?_cons_zero, List.getElem?_cons_succ, eq_self, Int.reduceLT, Int.reduceLE, Int.reduceNeg, Int.reduceEq, e0, e1, ei, c1, ro.ix, g0, wrap_in]
    simp (disch := omega) only [VW, VY, VZ, VA, VB, VC, VE, TY, ↓reduceIte, Nat.reduceEqDiff, Nat.reduceAdd, Nat.reduceMul, Nat.reduceSub, Nat.reduceLeDiff, List.length_cons, List.length_nil, List.length_append, List.append_assoc, List.take_succ_cons, List.take_zero, List.drop_succ_cons, List.drop_zero, List.set_cons_zero, List.set_cons_succ, true_or, or_true, and_self, Bool.false_eq_true, Nat.le_refl, Option.bind_some, Option.map_some, Option.getD_some, Option.isSome_some, List.map_cons, List.map_nil, List.cons_append, List.nil_append, List.append_nil, List.getElem?_cons_zero, List.getElem?_cons_succ, eq_self, Int.reduceLT, Int.reduceLE, Int.reduceNeg, Int.reduceEq, e0, e1, ei, ro.ix, g1]
    refine .inl ⟨by kernel_rfl, ?_⟩; refine heldIntS_c (l := x.low) (k := K + 1) (fe2) (by omega) (by omega) fun h11 E11 => ?_
    have EH1 := E11
    have nn1 : ¬ (K + 1 + (cntL x.low : Nat)) < 0 := by omega
    simp (disch := omega) only [VW, VY, VZ, VA, VB, VC, VE, TY, ↓reduceIte, Nat.reduceEqDiff, Nat.reduceAdd, Nat.reduceMul, Nat.reduceSub, Nat.reduceLeDiff, List.length_cons, List.length_nil, List.length_append, List.append_assoc, List.take_succ_cons, List.take_zero, List.drop_succ_cons, List.drop_zero, List.set_cons_zero, List.set_cons_succ, true_or, or_true, and_self, Bool.false_eq_true, Nat.le_refl, Option.bind_some, Option.map_some, Option.getD_some, Option.isSome_some, List.map_cons, List.map_nil, List.cons_append, List.nil_append, List.append_nil, List.getElem?_cons_zero, List.getElem?_cons_succ, eq_self, Int.reduceLT, Int.reduceLE, Int.reduceNeg, Int.reduceEq, nn1, e0, e1, ei, wrap_in]
    have g2 := EH1.keepC g2
    simp (disch := omega) only [VW, VY, VZ, VA, VB, VC, VE, TY, ↓reduceIte, Nat.reduceEqDiff, Nat.reduceAdd, Nat.reduceMul, Nat.reduceSub, Nat.reduceLeDiff, List.length_cons, List.length_nil, List.length_append, List.append_assoc, List.take_succ_cons, List.take_zero, List.drop_succ_cons, List.drop_zero, List.set_cons_zero, List.set_cons_succ, true_or, or_true, and_self, Bool.false_eq_true, Nat.le_refl, Option.bind_some, Option.map_some, Option.getD_some, Option.isSome_some, List.map_cons, List.map_nil, List.cons_append, List.nil_append, List.append_nil, List.getElem?_cons_zero, List.getElem?_cons_succ, eq_self, Int.reduceLT, Int.reduceLE, Int.reduceNeg, Int.reduceEq, e0, e1, ei, ro.ix, g2]
    refine .inl ⟨by kernel_rfl, ?_⟩; refine heldIntS_c (l := x.high) (k := K + 1 + (cntL x.low : Nat)) (Row.mono fe3 EH1) (by omega) (by omega) fun h12 E12 => ?_
    have EH2 := EH1.trans E12
    have nn2 : ¬ (K + 1 + (cntL x.low : Nat) + (cntL x.high : Nat)) < 0 := by omega
    simp (disch := omega) only [VW, VY, VZ, VA, VB, VC, VE, TY, ↓reduceIte, Nat.reduceEqDiff, Nat.reduceAdd, Nat.reduceMul, Nat.reduceSub, Nat.reduceLeDiff, List.length_cons, List.length_nil, List.length_append, List.append_assoc, List.take_succ_cons, List.take_zero, List.drop_succ_cons, List.drop_zero, List.set_cons_zero, List.set_cons_succ, true_or, or_true, and_self, Bool.false_eq_true, Nat.le_refl, Option.bind_some, Option.map_some, Option.getD_some, Option.isSome_some, List.map_cons, List.map_nil, List.cons_append, List.nil_append, List.append_nil, List.getElem?_cons_zero, List.getElem?_cons_succ, eq_self, Int.reduceLT, Int.reduceLE, Int.reduceNeg, Int.reduceEq, nn2, e0, e1, ei, wrap_in]
    exact ⟨_, by omega, i + 1, by congr 1; omega, by simp, by omega, rfl, E1.trans EH2⟩
  · obtain rfl : i = l.length := by omega
    have c1 : ¬ (l.length : Int) < (l.length : Int) := by omega
    rw [List.take_length] at e1
    simp (disch := omega) only [VW, VY, VZ, VA, VB, VC, VE, TY, ↓reduceIte, Nat.reduceEqDiff, Nat.reduceAdd, Nat.reduceMul, Nat.reduceSub, Nat.reduceLeDiff, List.length_cons, List.length_nil, List.length_append, List.append_assoc, List.take_succ_cons, List.take_zero, List.drop_succ_cons, List.drop_zero, List.set_cons_zero, List.set_cons_succ, true_or, or_true, and_self, Bool.false_eq_true, Nat.le_refl, Option.bind_some, Option.map_some, Option.getD_some, Option.isSome_some, List.map_cons, List.map_nil, List.cons_append, List.nil_append, List.append_nil, List.getElem?_cons_zero, List.getElem?_cons_succ, eq_self, Int.reduceLT, Int.reduceLE, Int.reduceNeg, Int.reduceEq, e0, e1, ei, c1]
    exact hQ _ E1
instance : Mrk Wk := ⟨fun x k => ⟨Mrk.bmk x.opened (k), Mrk.bmk x.free (k + (Mrk.cnt x.opened : Nat)), Mrk.bmk x.holds (k + (Mrk.cnt x.opened : Nat) + (Mrk.cnt x.free : Nat)), Mrk.bmk x.kept (k + (Mrk.cnt x.opened : Nat) + (Mrk.cnt x.free : Nat) + (Mrk.cnt x.holds : Nat)), x.steps⟩, fun x => Mrk.cnt x.opened + Mrk.cnt x.free + Mrk.cnt x.holds + Mrk.cnt x.kept, fun x k => ⟨Mrk.emk x.opened (k), Mrk.emk x.free (k + (Mrk.ecnt x.opened : Nat)), Mrk.emk x.holds (k + (Mrk.ecnt x.opened : Nat) + (Mrk.ecnt x.free : Nat)), Mrk.emk x.kept (k + (Mrk.ecnt x.opened : Nat) + (Mrk.ecnt x.free : Nat) + (Mrk.ecnt x.holds : Nat)), Mrk.emk x.steps (k + (Mrk.ecnt x.opened : Nat) + (Mrk.ecnt x.free : Nat) + (Mrk.ecnt x.holds : Nat) + (Mrk.ecnt x.kept : Nat))⟩, fun x => Mrk.ecnt x.opened + Mrk.ecnt x.free + Mrk.ecnt x.holds + Mrk.ecnt x.kept + Mrk.ecnt x.steps⟩
instance : CntB Wk := ⟨fun x => by
    have := CntB.c x.opened
    have := CntB.c x.free
    have := CntB.c x.holds
    have := CntB.c x.kept
    have := CntB.c x.steps
    show Mrk.cnt x.opened + Mrk.cnt x.free + Mrk.cnt x.holds + Mrk.cnt x.kept ≤ 8 * (Siz.siz x.opened + Siz.siz x.free + Siz.siz x.holds + Siz.siz x.kept + Siz.siz x.steps)
    omega, fun x => by
    have := CntB.c x.opened
    have := CntB.c x.free
    have := CntB.c x.holds
    have := CntB.c x.kept
    have := CntB.e x.steps
    have he : Mrk.ecnt x = (cntL x.opened + cntL x.free + cntL x.holds + cntL x.kept + 1) := rfl
    have hz : Siz.siz x = Siz.siz x.opened + Siz.siz x.free + Siz.siz x.holds + Siz.siz x.kept + Siz.siz x.steps := rfl
    have := cntL_le x.opened
    have := cntL_le x.free
    have := cntL_le x.holds
    have := cntL_le x.kept
    have : Siz.siz x.steps = 0 := rfl
    omega⟩
theorem markWork_c {x : Wk} {cs : List Value} {k : Int} {a h : Heap} {L : List Asr} {Q : Value → Heap → Prop} (s : Sep a h (repA x cs :: L)) (k0 : 0 ≤ k) (hk : k + (Mrk.cnt x : Nat) ≤ 1000000000000000)
    (hQ : ∀ h', Sep a h' (repA (Mrk.bmk x k) cs :: L) → Q (.int .i64 (k + (Mrk.cnt x : Nat))) h') : CallsV Try.prog 23 [.agg cs.toArray, .int .i64 k] h Q := by
  have ec : Mrk.cnt x = Mrk.cnt x.opened + Mrk.cnt x.free + Mrk.cnt x.holds + Mrk.cnt x.kept := rfl
  have hs : True := trivial
  obtain ⟨ce2, de2, rfl, sq2⟩ := Sep.unpair (α := (List Bx)) (β := (List Bx) × (List Bx) × (List Bx) × Int) (x := x.opened) (y := (x.free, x.holds, x.kept, x.steps)) s
  have s := sq2
  obtain ⟨we3, rfl, fe3⟩ := here_list s.here
  have s := s.pull 1 rfl
  obtain ⟨ce4, de4, rfl, sq4⟩ := Sep.unpair (α := (List Bx)) (β := (List Bx) × (List Bx) × Int) (x := x.free) (y := (x.holds, x.kept, x.steps)) s
  have s := sq4
  obtain ⟨we5, rfl, fe5⟩ := here_list s.here
  have s := s.pull 1 rfl
  obtain ⟨ce6, de6, rfl, sq6⟩ := Sep.unpair (α := (List Bx)) (β := (List Bx) × Int) (x := x.holds) (y := (x.kept, x.steps)) s
  have s := sq6
  obtain ⟨we7, rfl, fe7⟩ := here_list s.here
  have s := s.pull 1 rfl
  obtain ⟨ce8, de8, rfl, sq8⟩ := Sep.unpair (α := (List Bx)) (β := Int) (x := x.kept) (y := (x.steps)) s
  have s := sq8
  obtain ⟨we9, rfl, fe9⟩ := here_list s.here
  have s := s.pull 1 rfl
  obtain ⟨rfl, fe10⟩ := here_int s.here
  have s := s.tail
  have s := s.newBlk [we3, we5, we7, we9, .int .i64 x.steps] 30 true
  refine CallsV.start Try.func23 rfl (by rw [Try.results23]) (by kernel_rfl) (by rw [Try.ntmps23]; simp) ?_
  simp (disch := omega) only [VW, VY, VZ, VA, VB, VC, VE, TY, ↓reduceIte, Nat.reduceEqDiff, Nat.reduceAdd, Nat.reduceMul, Nat.reduceSub, Nat.reduceLeDiff, List.length_cons, List.length_nil, List.length_append, List.append_assoc, List.take_succ_cons, List.take_zero, List.drop_succ_cons, List.drop_zero, List.set_cons_zero, List.set_cons_succ, true_or, or_true, and_self, Bool.false_eq_true, Nat.le_refl, Option.bind_some, Option.map_some, Option.getD_some, Option.isSome_some, List.map_cons, List.map_nil, List.cons_append, List.nil_append, List.append_nil, List.getElem?_cons_zero, List.getElem?_cons_succ, eq_self, Int.reduceLT, Int.reduceLE, Int.reduceNeg, Int.reduceEq]
  have s := s.pull 4 rfl
  refine .inl ⟨by kernel_rfl, ?_⟩; refine markBoxS_c (l := x.opened) (k := k) s (by omega) (by have : Mrk.cnt x.opened = cntL x.opened := rfl; omega) fun hopened s => ?_
  have efOpen : Mrk.cnt x.opened = cntL x.opened := rfl
  have s := s.pull 1 rfl
  have g := s.rd
  have gA := s.rdA
  simp (disch := omega) only [VW, VY, VZ, VA, VB, VC, VE, TY, ↓reduceIte, Nat.reduceEqDiff, Nat.reduceAdd, Nat.reduceMul, Nat.reduceSub, Nat.reduceLeDiff, List.length_cons, List.length_nil, List.length_append, List.append_assoc, List.take_succ_cons, List.take_zero, List.drop_succ_cons, List.drop_zero, List.set_cons_zero, List.set_cons_succ, true_or, or_true, and_self, Bool.false_eq_true, Nat.le_refl, Option.bind_some, Option.map_some, Option.getD_some, Option.isSome_some, List.map_cons, List.map_nil, List.cons_append, List.nil_append, List.append_nil, List.getElem?_cons_zero, List.getElem?_cons_succ, eq_self, Int.reduceLT, Int.reduceLE, Int.reduceNeg, Int.reduceEq, g, gA]
  have s := s.pull 4 rfl
  refine .inl ⟨by kernel_rfl, ?_⟩; refine markBoxS_c (l := x.free) (k := k + (cntL x.opened : Nat)) s (by omega) (by have : Mrk.cnt x.free = cntL x.free := rfl; omega) fun hfree s => ?_
  have efFree : Mrk.cnt x.free = cntL x.free := rfl
  have s := s.pull 1 rfl
  have g := s.rd
  have gA := s.rdA
  simp (disch := omega) only [VW, VY, VZ, VA, VB, VC, VE, TY, ↓reduceIte, Nat.reduceEqDiff, Nat.reduceAdd, Nat.reduceMul, Nat.reduceSub, Nat.reduceLeDiff, List.length_cons, List.length_nil, List.length_append, List.append_assoc, List.take_succ_cons, List.take_zero, List.drop_succ_cons, List.drop_zero, List.set_cons_zero, List.set_cons_succ, true_or, or_true, and_self, Bool.false_eq_true, Nat.le_refl, Option.bind_some, Option.map_some, Option.getD_some, Option.isSome_some, List.map_cons, List.map_nil, List.cons_append, List.nil_append, List.append_nil, List.getElem?_cons_zero, List.getElem?_cons_succ, eq_self, Int.reduceLT, Int.reduceLE, Int.reduceNeg, Int.reduceEq, g, gA]
  have s := s.pull 4 rfl
  refine .inl ⟨by kernel_rfl, ?_⟩; refine markBoxS_c (l := x.holds) (k := k + (cntL x.opened : Nat) + (cntL x.free : Nat)) s (by omega) (by have : Mrk.cnt x.holds = cntL x.holds := rfl; omega) fun hholds s => ?_
  have efHolds : Mrk.cnt x.holds = cntL x.holds := rfl
  have s := s.pull 1 rfl
  have g := s.rd
  have gA := s.rdA
  simp (disch := omega) only [VW, VY, VZ, VA, VB, VC, VE, TY, ↓reduceIte, Nat.reduceEqDiff, Nat.reduceAdd, Nat.reduceMul, Nat.reduceSub, Nat.reduceLeDiff, List.length_cons, List.length_nil, List.length_append, List.append_assoc, List.take_succ_cons, List.take_zero, List.drop_succ_cons, List.drop_zero, List.set_cons_zero, List.set_cons_succ, true_or, or_true, and_self, Bool.false_eq_true, Nat.le_refl, Option.bind_some, Option.map_some, Option.getD_some, Option.isSome_some, List.map_cons, List.map_nil, List.cons_append, List.nil_append, List.append_nil, List.getElem?_cons_zero, List.getElem?_cons_succ, eq_self, Int.reduceLT, Int.reduceLE, Int.reduceNeg, Int.reduceEq, g, gA]
  have s := s.pull 4 rfl
  refine .inl ⟨by kernel_rfl, ?_⟩; refine markBoxS_c (l := x.kept) (k := k + (cntL x.opened : Nat) + (cntL x.free : Nat) + (cntL x.holds : Nat)) s (by omega) (by have : Mrk.cnt x.kept = cntL x.kept := rfl; omega) fun hkept s => ?_
  have efKept : Mrk.cnt x.kept = cntL x.kept := rfl
  simp (disch := omega) only [VW, VY, VZ, VA, VB, VC, VE, TY, ↓reduceIte, Nat.reduceEqDiff, Nat.reduceAdd, Nat.reduceMul, Nat.reduceSub, Nat.reduceLeDiff, List.length_cons, List.length_nil, List.length_append, List.append_assoc, List.take_succ_cons, List.take_zero, List.drop_succ_cons, List.drop_zero, List.set_cons_zero, List.set_cons_succ, true_or, or_true, and_self, Bool.false_eq_true, Nat.le_refl, Option.bind_some, Option.map_some, Option.getD_some, Option.isSome_some, List.map_cons, List.map_nil, List.cons_append, List.nil_append, List.append_nil, List.getElem?_cons_zero, List.getElem?_cons_succ, eq_self, Int.reduceLT, Int.reduceLE, Int.reduceNeg, Int.reduceEq]
  have s := s.pull 1 rfl
  have s := s.tail
  have s := Sep.rep0 (x := x.steps) s (rep_int fe10)
  have s := s.pull 1 rfl
  have s := Sep.pair s
  have s := s.pull 1 rfl
  have s := Sep.pair s
  have s := s.pull 1 rfl
  have s := Sep.pair s
  have s := s.pull 1 rfl
  have s := Sep.pair s
  have e : k + (Mrk.cnt x : Nat) = k + (cntL x.opened : Nat) + (cntL x.free : Nat) + (cntL x.holds : Nat) + (cntL x.kept : Nat) := by rw [ec]; omega
  rw [e] at hQ
  exact hQ _ s
end Go.Proofs

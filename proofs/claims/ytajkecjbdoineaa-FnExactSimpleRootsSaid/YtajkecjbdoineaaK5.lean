/- Contracts of functions, facts of types, or the plain law behind one statement (own work): K5. Conditions: those told in each theorem. -/
import Derived.Test.YtajkecjbdoineaaH6
set_option linter.all false
set_option linter.unusedSimpArgs false
set_option linter.unusedVariables false
set_option maxRecDepth 4000
namespace Go.Proofs
open Go Go.V
open Nat (reduceEqDiff reduceAdd reduceMul reduceSub reduceLeDiff)
open Int (reduceLT reduceLE reduceNeg reduceEq)
theorem markIntS_c {l : List Int} {v : Value} {k : Int} {a h : Heap} {L : List Asr} {Q : Value → Heap → Prop} (s : Sep a h (repA l [v] :: L)) (k0 : 0 ≤ k) (hk : k + (cntL l : Nat) ≤ 1000000000000000)
    (hQ : ∀ h', Sep a h' (repA (mkL l k) [v] :: L) → Q (.int .i64 (k + (cntL l : Nat))) h') : CallsV Try.prog 11 [v, .int .i64 k] h Q := by
  refine CallsV.start Try.func11 rfl (by rw [Try.results11]) (by kernel_rfl) (by rw [Try.ntmps11]; simp) ?_
  have hle := s.rowR.le
  simp (disch := omega) only [WA, ↓reduceIte, reduceEqDiff, reduceAdd, reduceMul, reduceSub, reduceLeDiff, reduceLT, reduceLE, reduceNeg, reduceEq]
  refine loop_rule (fun n e h' => ∃ (i : Nat), e 0 = v ∧ e 1 = .int .i64 (k + (cntL (l.take i) : Nat)) ∧ e 5 = .int .i64 i ∧ i ≤ l.length ∧ n = l.length - i ∧ Sep a h' (repA (mkL (l.take i) k ++ l.drop i) [v] :: L)) ?_ l.length _ _ ⟨0, rfl, by simp [upd, cntL, startEnv], rfl, Nat.zero_le _, rfl, by simpa [mkL] using s⟩
  rintro n e h1 ⟨i, e0, e1, ei, hi, rfl, s⟩
  have hlen := mkP_length l k hi
  have ro := s.rowR.isRow
  rw [hlen] at ro
  simp (disch := omega) only [WA, ↓reduceIte, reduceEqDiff, reduceAdd, reduceMul, reduceSub, reduceLeDiff, reduceLT, reduceLE, reduceNeg, reduceEq, e0, ei, ro.len]
  by_cases hlt : i < l.length
  · obtain ⟨x, hx⟩ := get_some hlt
    have c1 : (i : Int) < (l.length : Int) := by omega
    have ct := cntL_take hx
    have cl := cntL_take_le l (i + 1)
    have hset := mkP_set hx k
    obtain ⟨cs, x3, s⟩ := s.focus (mkP_get hx k)
    have ec : Mrk.ecnt x = 1 := rfl
    generalize hK : k + (cntL (l.take i) : Nat) = K at *
    have kb : 0 ≤ K ∧ K + (Mrk.ecnt x : Nat) ≤ 1000000000000000 := by omega
    have hd : ∀ (hp : Heap) (M : List Asr), Sep a hp (repA (Mrk.emk x K) cs :: holeA (mkL (l.take i) k ++ l.drop i) v i cs :: M) → True := fun _ _ _ => trivial
    clear hd
    obtain ⟨rfl, fe1⟩ := here_int s.here
    have s := s.tail
    simp (disch := omega) only [WA, ↓reduceIte, reduceEqDiff, reduceAdd, reduceMul, reduceSub, reduceLeDiff, reduceLT, reduceLE, reduceNeg, reduceEq, e0, e1, ei, c1, ro.ix]
    refine sep_hole (j := 0) s (by simp [show Rep.sz Int = 1 from rfl]) (by simp) fun h10 s => ?_
    have s := Sep.hcs (ds := [.int .i64 (K)]) s rfl
    simp (disch := omega) only [WA, ↓reduceIte, reduceEqDiff, reduceAdd, reduceMul, reduceSub, reduceLeDiff, reduceLT, reduceLE, reduceNeg, reduceEq, e0, e1, ei, ro.ix, wrap_in]
    have s := Sep.rep0 (x := K) s (rep_int ⟨by omega, by omega⟩)
    have s := Sep.close (y := Mrk.emk x K) (cs := [.int .i64 (K)]) s
    rw [hset] at s
    try simp (disch := omega) only [WA, ↓reduceIte, reduceEqDiff, reduceAdd, reduceMul, reduceSub, reduceLeDiff, reduceLT, reduceLE, reduceNeg, reduceEq, e0, e1, ei, wrap_in]
    exact ⟨_, by omega, i + 1, by congr 1; omega, by simp, by omega, rfl, s⟩
  · obtain rfl : i = l.length := by omega
    have c1 : ¬ (l.length : Int) < (l.length : Int) := by omega
    rw [List.take_length, List.drop_length, List.append_nil] at s
    rw [List.take_length] at e1
    simp (disch := omega) only [WA, ↓reduceIte, reduceEqDiff, reduceAdd, reduceMul, reduceSub, reduceLeDiff, reduceLT, reduceLE, reduceNeg, reduceEq, e0, e1, ei, c1]
    exact hQ _ s
theorem heldIntS_c {l : List Int} {v : Value} {k : Int} {h : Heap} {Q : Value → Heap → Prop} (hl : Row h (mkL l k) v) (k0 : 0 ≤ k) (hk : k + (cntL l : Nat) ≤ 1000000000000000)
    (hQ : ∀ h', Ext h h' → Q (.int .i64 (k + (cntL l : Nat))) h') : CallsV Try.prog 24 [v, .int .i64 k] h Q := by
  refine CallsV.start Try.func24 rfl (by rw [Try.results24]) (by kernel_rfl) (by rw [Try.ntmps24]; simp) ?_
  have hle := hl.le
  have ro := hl.isRow
  rw [mkL_length] at hle ro
  simp (disch := omega) only [WA, ↓reduceIte, reduceEqDiff, reduceAdd, reduceMul, reduceSub, reduceLeDiff, reduceLT, reduceLE, reduceNeg, reduceEq]
  refine loop_rule (fun n e h' => ∃ (i : Nat), e 0 = v ∧ e 1 = .int .i64 (k + (cntL (l.take i) : Nat)) ∧ e 5 = .int .i64 i ∧ i ≤ l.length ∧ n = l.length - i ∧ Ext h h') ?_ l.length _ _ ⟨0, rfl, by simp [upd, cntL, startEnv], rfl, Nat.zero_le _, rfl, .refl _⟩
  rintro n e h1 ⟨i, e0, e1, ei, hi, rfl, E1⟩
  simp (disch := omega) only [WA, ↓reduceIte, reduceEqDiff, reduceAdd, reduceMul, reduceSub, reduceLeDiff, reduceLT, reduceLE, reduceNeg, reduceEq, e0, ei, ro.len]
  by_cases hlt : i < l.length
  · obtain ⟨x, hx⟩ := get_some hlt
    have c1 : (i : Int) < (l.length : Int) := by omega
    have ct := cntL_take hx
    have cl := cntL_take_le l (i + 1)
    have hx' := mkL_get hx k
    have ec : Mrk.ecnt x = 1 := rfl
    generalize hK : k + (cntL (l.take i) : Nat) = K at *
    have kb : 0 ≤ K ∧ K + (Mrk.ecnt x : Nat) ≤ 1000000000000000 := by omega
    have hl1 := hl.mono E1
    obtain ⟨x3, x4⟩ := row_int hl1 hx'
    have x3 : getC h1 (rowB v) (rowO v + i) = some (.int .i64 K) := x3
    simp (disch := omega) only [WA, ↓reduceIte, reduceEqDiff, reduceAdd, reduceMul, reduceSub, reduceLeDiff, reduceLT, reduceLE, reduceNeg, reduceEq, e0, e1, ei, c1, ro.ix, x3, wrap_in]
    exact ⟨_, by omega, i + 1, by congr 1; omega, by simp, by omega, rfl, E1⟩
  · obtain rfl : i = l.length := by omega
    have c1 : ¬ (l.length : Int) < (l.length : Int) := by omega
    rw [List.take_length] at e1
    simp (disch := omega) only [WA, ↓reduceIte, reduceEqDiff, reduceAdd, reduceMul, reduceSub, reduceLeDiff, reduceLT, reduceLE, reduceNeg, reduceEq, e0, e1, ei, c1]
    exact hQ _ E1
theorem markIntSS_c {l : List (List Int)} {v : Value} {k : Int} {a h : Heap} {L : List Asr} {Q : Value → Heap → Prop} (s : Sep a h (repA l [v] :: L)) (k0 : 0 ≤ k) (hk : k + (cntL l : Nat) ≤ 1000000000000000)
    (hQ : ∀ h', Sep a h' (repA (mkL l k) [v] :: L) → Q (.int .i64 (k + (cntL l : Nat))) h') : CallsV Try.prog 12 [v, .int .i64 k] h Q := by
  refine CallsV.start Try.func12 rfl (by rw [Try.results12]) (by kernel_rfl) (by rw [Try.ntmps12]; simp) ?_
  have hle := s.rowR.le
  simp (disch := omega) only [WA, ↓reduceIte, reduceEqDiff, reduceAdd, reduceMul, reduceSub, reduceLeDiff, reduceLT, reduceLE, reduceNeg, reduceEq]
  refine loop_rule (fun n e h' => ∃ (i : Nat), e 0 = v ∧ e 1 = .int .i64 (k + (cntL (l.take i) : Nat)) ∧ e 5 = .int .i64 i ∧ i ≤ l.length ∧ n = l.length - i ∧ Sep a h' (repA (mkL (l.take i) k ++ l.drop i) [v] :: L)) ?_ l.length _ _ ⟨0, rfl, by simp [upd, cntL, startEnv], rfl, Nat.zero_le _, rfl, by simpa [mkL] using s⟩
  rintro n e h1 ⟨i, e0, e1, ei, hi, rfl, s⟩
  have hlen := mkP_length l k hi
  have ro := s.rowR.isRow
  rw [hlen] at ro
  simp (disch := omega) only [WA, ↓reduceIte, reduceEqDiff, reduceAdd, reduceMul, reduceSub, reduceLeDiff, reduceLT, reduceLE, reduceNeg, reduceEq, e0, ei, ro.len]
  by_cases hlt : i < l.length
  · obtain ⟨x, hx⟩ := get_some hlt
    have c1 : (i : Int) < (l.length : Int) := by omega
    have ct := cntL_take hx
    have cl := cntL_take_le l (i + 1)
    have hset := mkP_set hx k
    obtain ⟨cs, x3, s⟩ := s.focus (mkP_get hx k)
    generalize hK : k + (cntL (l.take i) : Nat) = K at *
    have kb : 0 ≤ K ∧ K + (Mrk.ecnt x : Nat) ≤ 1000000000000000 := by omega
    have hec : Mrk.ecnt x = cntL x := rfl
    have hd : ∀ (hp : Heap) (M : List Asr), Sep a hp (repA (Mrk.emk x K) cs :: holeA (mkL (l.take i) k ++ l.drop i) v i cs :: M) → True := fun _ _ _ => trivial
    clear hd
    obtain ⟨we1, rfl, fe1⟩ := here_list s.here
    simp (disch := omega) only [WA, ↓reduceIte, reduceEqDiff, reduceAdd, reduceMul, reduceSub, reduceLeDiff, reduceLT, reduceLE, reduceNeg, reduceEq, e0, e1, ei, c1, ro.ix]
    have s := s.pull 1 rfl
    have g := s.hrd 0 (by simp) (o := rowO v + i) (by simp [show Rep.sz (List Int) = 1 from rfl])
    simp (disch := omega) only [WA, ↓reduceIte, reduceEqDiff, reduceAdd, reduceMul, reduceSub, reduceLeDiff, reduceLT, reduceLE, reduceNeg, reduceEq, e0, e1, ei, ro.ix, g]
    have s := s.pull 1 rfl
    refine .inl ⟨by kernel_rfl, ?_⟩; refine markIntS_c s (by omega) (by omega) fun h10 s => ?_
    simp (disch := omega) only [WA, ↓reduceIte, reduceEqDiff, reduceAdd, reduceMul, reduceSub, reduceLeDiff, reduceLT, reduceLE, reduceNeg, reduceEq, e0, e1, ei, ro.ix, wrap_in]
    have s := Sep.close (y := Mrk.emk x K) (cs := [we1]) s
    rw [hset] at s
    try simp (disch := omega) only [WA, ↓reduceIte, reduceEqDiff, reduceAdd, reduceMul, reduceSub, reduceLeDiff, reduceLT, reduceLE, reduceNeg, reduceEq, e0, e1, ei, wrap_in]
    exact ⟨_, by omega, i + 1, by congr 1; omega, by simp, by omega, rfl, s⟩
  · obtain rfl : i = l.length := by omega
    have c1 : ¬ (l.length : Int) < (l.length : Int) := by omega
    rw [List.take_length, List.drop_length, List.append_nil] at s
    rw [List.take_length] at e1
    simp (disch := omega) only [WA, ↓reduceIte, reduceEqDiff, reduceAdd, reduceMul, reduceSub, reduceLeDiff, reduceLT, reduceLE, reduceNeg, reduceEq, e0, e1, ei, c1]
    exact hQ _ s
theorem heldIntSS_c {l : List (List Int)} {v : Value} {k : Int} {h : Heap} {Q : Value → Heap → Prop} (hl : Row h (mkL l k) v) (k0 : 0 ≤ k) (hk : k + (cntL l : Nat) ≤ 1000000000000000)
    (hQ : ∀ h', Ext h h' → Q (.int .i64 (k + (cntL l : Nat))) h') : CallsV Try.prog 13 [v, .int .i64 k] h Q := by
  refine CallsV.start Try.func13 rfl (by rw [Try.results13]) (by kernel_rfl) (by rw [Try.ntmps13]; simp) ?_
  have hle := hl.le
  have ro := hl.isRow
  rw [mkL_length] at hle ro
  simp (disch := omega) only [WA, ↓reduceIte, reduceEqDiff, reduceAdd, reduceMul, reduceSub, reduceLeDiff, reduceLT, reduceLE, reduceNeg, reduceEq]
  refine loop_rule (fun n e h' => ∃ (i : Nat), e 0 = v ∧ e 1 = .int .i64 (k + (cntL (l.take i) : Nat)) ∧ e 5 = .int .i64 i ∧ i ≤ l.length ∧ n = l.length - i ∧ Ext h h') ?_ l.length _ _ ⟨0, rfl, by simp [upd, cntL, startEnv], rfl, Nat.zero_le _, rfl, .refl _⟩
  rintro n e h1 ⟨i, e0, e1, ei, hi, rfl, E1⟩
  simp (disch := omega) only [WA, ↓reduceIte, reduceEqDiff, reduceAdd, reduceMul, reduceSub, reduceLeDiff, reduceLT, reduceLE, reduceNeg, reduceEq, e0, ei, ro.len]
  by_cases hlt : i < l.length
  · obtain ⟨x, hx⟩ := get_some hlt
    have c1 : (i : Int) < (l.length : Int) := by omega
    have ct := cntL_take hx
    have cl := cntL_take_le l (i + 1)
    have hx' := mkL_get hx k
    generalize hK : k + (cntL (l.take i) : Nat) = K at *
    have kb : 0 ≤ K ∧ K + (Mrk.ecnt x : Nat) ≤ 1000000000000000 := by omega
    have hec : Mrk.ecnt x = cntL x := rfl
    have hl1 := hl.mono E1
    obtain ⟨we1, x3, fe1⟩ := row_list hl1 hx'
    simp (disch := omega) only [WA, ↓reduceIte, reduceEqDiff, reduceAdd, reduceMul, reduceSub, reduceLeDiff, reduceLT, reduceLE, reduceNeg, reduceEq, e0, e1, ei, c1, ro.ix, x3]
    refine .inl ⟨by kernel_rfl, ?_⟩; refine heldIntS_c (l := x) (k := K) (fe1) (by omega) (by omega) fun h10 E10 => ?_
    have EH0 := E10
    have nn0 : ¬ (K + (cntL x : Nat)) < 0 := by omega
    simp (disch := omega) only [WA, ↓reduceIte, reduceEqDiff, reduceAdd, reduceMul, reduceSub, reduceLeDiff, reduceLT, reduceLE, reduceNeg, reduceEq, nn0, e0, e1, ei, wrap_in]
    exact ⟨_, by omega, i + 1, by congr 1; omega, by simp, by omega, rfl, E1.trans EH0⟩
  · obtain rfl : i = l.length := by omega
    have c1 : ¬ (l.length : Int) < (l.length : Int) := by omega
    rw [List.take_length] at e1
    simp (disch := omega) only [WA, ↓reduceIte, reduceEqDiff, reduceAdd, reduceMul, reduceSub, reduceLeDiff, reduceLT, reduceLE, reduceNeg, reduceEq, e0, e1, ei, c1]
    exact hQ _ E1
end Go.Proofs

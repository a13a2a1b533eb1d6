/- Contracts of functions, facts of types, or the plain law behind one statement (own work): YM. Conditions: those told in each theorem. -/
import Derived.Test.YtiiolloielppeaaYL
set_option linter.all false
set_option linter.unusedSimpArgs false
set_option linter.unusedVariables false
set_option maxRecDepth 4000
namespace Go.Proofs
open Go Go.V
/- The reckoner: a block with one cell. -/
theorem keep_c {a h : Heap} {b : Nat} {L : List Asr} {p q : Bool} {d : Dy} {Q : Value → Heap → Prop} (s : Sep a h (blkA b [.bool p] 93 :: L))
    (hQ : ∀ h', Sep a h' (blkA b [.bool (p && q)] 93 :: L) → Q (.agg (dyC (if (p && q) = true then d else ⟨0, 0⟩)).toArray) h') :
    CallsV Try.prog 65 [.pointer (some ⟨b, 0, none⟩), .agg (dyC d).toArray, .bool q] h Q := by
  refine CallsV.start Try.func65 rfl (by rw [Try.results65]) (by kernel_rfl) (by rw [Try.ntmps65]; simp) ?_
  have s := ((s.newBlk (dyC d) 39 true).newBlk [.int .i64 0, .int .i64 0] 39 true)
  have e1 : (h ++ [some (⟨dyC d, 39, false, true⟩ : Blk)]) ++ [some ⟨[.int .i64 0, .int .i64 0], 39, false, true⟩] = h ++ [some ⟨dyC d, 39, false, true⟩, some ⟨[.int .i64 0, .int .i64 0], 39, false, true⟩] := by simp
  have e2 : (h ++ [some (⟨dyC d, 39, false, true⟩ : Blk)]).length = h.length + 1 := by simp
  rw [e1, e2] at s
  have g := (s.pull 2 rfl).rd
  rcases p with _ | _ <;> rcases q with _ | _
  · simp (disch := omega) only [VW, VY, VZ, VA, VB, VC, VE, TY, ↓reduceIte, Nat.reduceEqDiff, Nat.reduceAdd, Nat.reduceMul, Nat.reduceSub, Nat.reduceLeDiff, List.length_cons, List.length_nil, List.length_append, List.append_assoc, List.take_succ_cons, List.take_zero, List.drop_succ_cons, List.drop_zero, List.set_cons_zero, List.set_cons_succ, true_or, or_true, and_self, Bool.false_eq_true, Nat.le_refl, Option.bind_some, Option.map_some, Option.getD_some, Option.isSome_some, List.map_cons, List.map_nil, List.cons_append, List.nil_append, List.append_nil, List.getElem?_cons_zero, List.getElem?_cons_succ, eq_self, Int.reduceLT, Int.reduceLE, Int.reduceNeg, Int.reduceEq, g]
    refine sep_store (s.pull 2 rfl) (by simp) fun h1 s => ?_
    have s := s.as (ds := [.bool false]) (by simp [t_put])
    have g := s.rd
    have gd := (s.pull 2 rfl).rdAll (n := 2) rfl
    simp (disch := omega) only [VW, VY, VZ, VA, VB, VC, VE, TY, ↓reduceIte, Nat.reduceEqDiff, Nat.reduceAdd, Nat.reduceMul, Nat.reduceSub, Nat.reduceLeDiff, List.length_cons, List.length_nil, List.length_append, List.append_assoc, List.take_succ_cons, List.take_zero, List.drop_succ_cons, List.drop_zero, List.set_cons_zero, List.set_cons_succ, true_or, or_true, and_self, Bool.false_eq_true, Nat.le_refl, Option.bind_some, Option.map_some, Option.getD_some, Option.isSome_some, List.map_cons, List.map_nil, List.cons_append, List.nil_append, List.append_nil, List.getElem?_cons_zero, List.getElem?_cons_succ, eq_self, Int.reduceLT, Int.reduceLE, Int.reduceNeg, Int.reduceEq, g, gd]
    refine sep_store (s.pull 1 rfl) (by simp) fun h2 s => ?_
    have s := s.as (ds := [.int .i64 0, .int .i64 0]) (by simp [t_put])
    have gz := s.rdAll (n := 2) rfl
    simp (disch := omega) only [VW, VY, VZ, VA, VB, VC, VE, TY, ↓reduceIte, Nat.reduceEqDiff, Nat.reduceAdd, Nat.reduceMul, Nat.reduceSub, Nat.reduceLeDiff, List.length_cons, List.length_nil, List.length_append, List.append_assoc, List.take_succ_cons, List.take_zero, List.drop_succ_cons, List.drop_zero, List.set_cons_zero, List.set_cons_succ, true_or, or_true, and_self, Bool.false_eq_true, Nat.le_refl, Option.bind_some, Option.map_some, Option.getD_some, Option.isSome_some, List.map_cons, List.map_nil, List.cons_append, List.nil_append, List.append_nil, List.getElem?_cons_zero, List.getElem?_cons_succ, eq_self, Int.reduceLT, Int.reduceLE, Int.reduceNeg, Int.reduceEq, gz]
    exact hQ _ ((s.tail).swap.tail)
  · simp (disch := omega) only [VW, VY, VZ, VA, VB, VC, VE, TY, ↓reduceIte, Nat.reduceEqDiff, Nat.reduceAdd, Nat.reduceMul, Nat.reduceSub, Nat.reduceLeDiff, List.length_cons, List.length_nil, List.length_append, List.append_assoc, List.take_succ_cons, List.take_zero, List.drop_succ_cons, List.drop_zero, List.set_cons_zero, List.set_cons_succ, true_or, or_true, and_self, Bool.false_eq_true, Nat.le_refl, Option.bind_some, Option.map_some, Option.getD_some, Option.isSome_some, List.map_cons, List.map_nil, List.cons_append, List.nil_append, List.append_nil, List.getElem?_cons_zero, List.getElem?_cons_succ, eq_self, Int.reduceLT, Int.reduceLE, Int.reduceNeg, Int.reduceEq, g]
    refine sep_store (s.pull 2 rfl) (by simp) fun h1 s => ?_
    have s := s.as (ds := [.bool false]) (by simp [t_put])
    have g := s.rd
    have gd := (s.pull 2 rfl).rdAll (n := 2) rfl
    simp (disch := omega) only [VW, VY, VZ, VA, VB, VC, VE, TY, ↓reduceIte, Nat.reduceEqDiff, Nat.reduceAdd, Nat.reduceMul, Nat.reduceSub, Nat.reduceLeDiff, List.length_cons, List.length_nil, List.length_append, List.append_assoc, List.take_succ_cons, List.take_zero, List.drop_succ_cons, List.drop_zero, List.set_cons_zero, List.set_cons_succ, true_or, or_true, and_self, Bool.false_eq_true, Nat.le_refl, Option.bind_some, Option.map_some, Option.getD_some, Option.isSome_some, List.map_cons, List.map_nil, List.cons_append, List.nil_append, List.append_nil, List.getElem?_cons_zero, List.getElem?_cons_succ, eq_self, Int.reduceLT, Int.reduceLE, Int.reduceNeg, Int.reduceEq, g, gd]
    refine sep_store (s.pull 1 rfl) (by simp) fun h2 s => ?_
    have s := s.as (ds := [.int .i64 0, .int .i64 0]) (by simp [t_put])
    have gz := s.rdAll (n := 2) rfl
    simp (disch := omega) only [VW, VY, VZ, VA, VB, VC, VE, TY, ↓reduceIte, Nat.reduceEqDiff, Nat.reduceAdd, Nat.reduceMul, Nat.reduceSub, Nat.reduceLeDiff, List.length_cons, List.length_nil, List.length_append, List.append_assoc, List.take_succ_cons, List.take_zero, List.drop_succ_cons, List.drop_zero, List.set_cons_zero, List.set_cons_succ, true_or, or_true, and_self, Bool.false_eq_true, Nat.le_refl, Option.bind_some, Option.map_some, Option.getD_some, Option.isSome_some, List.map_cons, List.map_nil, List.cons_append, List.nil_append, List.append_nil, List.getElem?_cons_zero, List.getElem?_cons_succ, eq_self, Int.reduceLT, Int.reduceLE, Int.reduceNeg, Int.reduceEq, gz]
    exact hQ _ ((s.tail).swap.tail)
  · simp (disch := omega) only [VW, VY, VZ, VA, VB, VC, VE, TY, ↓reduceIte, Nat.reduceEqDiff, Nat.reduceAdd, Nat.reduceMul, Nat.reduceSub, Nat.reduceLeDiff, List.length_cons, List.length_nil, List.length_append, List.append_assoc, List.take_succ_cons, List.take_zero, List.drop_succ_cons, List.drop_zero, List.set_cons_zero, List.set_cons_succ, true_or, or_true, and_self, Bool.false_eq_true, Nat.le_refl, Option.bind_some, Option.map_some, Option.getD_some, Option.isSome_some, List.map_cons, List.map_nil, List.cons_append, List.nil_append, List.append_nil, List.getElem?_cons_zero, List.getElem?_cons_succ, eq_self, Int.reduceLT, Int.reduceLE, Int.reduceNeg, Int.reduceEq, g]
    refine sep_store (s.pull 2 rfl) (by simp) fun h1 s => ?_
    have s := s.as (ds := [.bool false]) (by simp [t_put])
    have g := s.rd
    have gd := (s.pull 2 rfl).rdAll (n := 2) rfl
    simp (disch := omega) only [VW, VY, VZ, VA, VB, VC, VE, TY, ↓reduceIte, Nat.reduceEqDiff, Nat.reduceAdd, Nat.reduceMul, Nat.reduceSub, Nat.reduceLeDiff, List.length_cons, List.length_nil, List.length_append, List.append_assoc, List.take_succ_cons, List.take_zero, List.drop_succ_cons, List.drop_zero, List.set_cons_zero, List.set_cons_succ, true_or, or_true, and_self, Bool.false_eq_true, Nat.le_refl, Option.bind_some, Option.map_some, Option.getD_some, Option.isSome_some, List.map_cons, List.map_nil, List.cons_append, List.nil_append, List.append_nil, List.getElem?_cons_zero, List.getElem?_cons_succ, eq_self, Int.reduceLT, Int.reduceLE, Int.reduceNeg, Int.reduceEq, g, gd]
    refine sep_store (s.pull 1 rfl) (by simp) fun h2 s => ?_
    have s := s.as (ds := [.int .i64 0, .int .i64 0]) (by simp [t_put])
    have gz := s.rdAll (n := 2) rfl
    simp (disch := omega) only [VW, VY, VZ, VA, VB, VC, VE, TY, ↓reduceIte, Nat.reduceEqDiff, Nat.reduceAdd, Nat.reduceMul, Nat.reduceSub, Nat.reduceLeDiff, List.length_cons, List.length_nil, List.length_append, List.append_assoc, List.take_succ_cons, List.take_zero, List.drop_succ_cons, List.drop_zero, List.set_cons_zero, List.set_cons_succ, true_or, or_true, and_self, Bool.false_eq_true, Nat.le_refl, Option.bind_some, Option.map_some, Option.getD_some, Option.isSome_some, List.map_cons, List.map_nil, List.cons_append, List.nil_append, List.append_nil, List.getElem?_cons_zero, List.getElem?_cons_succ, eq_self, Int.reduceLT, Int.reduceLE, Int.reduceNeg, Int.reduceEq, gz]
    exact hQ _ ((s.tail).swap.tail)
  · simp (disch := omega) only [VW, VY, VZ, VA, VB, VC, VE, TY, ↓reduceIte, Nat.reduceEqDiff, Nat.reduceAdd, Nat.reduceMul, Nat.reduceSub, Nat.reduceLeDiff, List.length_cons, List.length_nil, List.length_append, List.append_assoc, List.take_succ_cons, List.take_zero, List.drop_succ_cons, List.drop_zero, List.set_cons_zero, List.set_cons_succ, true_or, or_true, and_self, Bool.false_eq_true, Nat.le_refl, Option.bind_some, Option.map_some, Option.getD_some, Option.isSome_some, List.map_cons, List.map_nil, List.cons_append, List.nil_append, List.append_nil, List.getElem?_cons_zero, List.getElem?_cons_succ, eq_self, Int.reduceLT, Int.reduceLE, Int.reduceNeg, Int.reduceEq, g]
    refine sep_store (s.pull 2 rfl) (by simp) fun h1 s => ?_
    have s := s.as (ds := [.bool true]) (by simp [t_put])
    have g := s.rd
    have gd := (s.pull 2 rfl).rdAll (n := 2) rfl
    simp (disch := omega) only [VW, VY, VZ, VA, VB, VC, VE, TY, ↓reduceIte, Nat.reduceEqDiff, Nat.reduceAdd, Nat.reduceMul, Nat.reduceSub, Nat.reduceLeDiff, List.length_cons, List.length_nil, List.length_append, List.append_assoc, List.take_succ_cons, List.take_zero, List.drop_succ_cons, List.drop_zero, List.set_cons_zero, List.set_cons_succ, true_or, or_true, and_self, Bool.false_eq_true, Nat.le_refl, Option.bind_some, Option.map_some, Option.getD_some, Option.isSome_some, List.map_cons, List.map_nil, List.cons_append, List.nil_append, List.append_nil, List.getElem?_cons_zero, List.getElem?_cons_succ, eq_self, Int.reduceLT, Int.reduceLE, Int.reduceNeg, Int.reduceEq, g, gd]
    refine sep_store (s.pull 1 rfl) (by simp) fun h2 s => ?_
    have s := s.as (ds := dyC d) (by simp [t_put])
    have gz := s.rdAll (n := 2) rfl
    simp (disch := omega) only [VW, VY, VZ, VA, VB, VC, VE, TY, ↓reduceIte, Nat.reduceEqDiff, Nat.reduceAdd, Nat.reduceMul, Nat.reduceSub, Nat.reduceLeDiff, List.length_cons, List.length_nil, List.length_append, List.append_assoc, List.take_succ_cons, List.take_zero, List.drop_succ_cons, List.drop_zero, List.set_cons_zero, List.set_cons_succ, true_or, or_true, and_self, Bool.false_eq_true, Nat.le_refl, Option.bind_some, Option.map_some, Option.getD_some, Option.isSome_some, List.map_cons, List.map_nil, List.cons_append, List.nil_append, List.append_nil, List.getElem?_cons_zero, List.getElem?_cons_succ, eq_self, Int.reduceLT, Int.reduceLE, Int.reduceNeg, Int.reduceEq, gz]
    exact hQ _ ((s.tail).swap.tail)
def accM (o : Option Dy) (d : Dy) : Option Dy := match o with | none => none | some x => sumM' x d
def GoodO (o : Option Dy) : Prop := ∀ x, o = some x → DyG x
theorem good0 : DyG ⟨0, 0⟩ := ⟨by decide, by decide, by decide, by decide, .inl rfl⟩
theorem GoodO.get {o : Option Dy} (h : GoodO o) : DyG (o.getD ⟨0, 0⟩) := by
  cases o with
  | none => exact good0
  | some x => exact h x rfl
theorem sumM_good {a b : Dy} {x : Dy} (h : sumM' a b = some x) : DyG x := makeM_good h
theorem accM_good {o : Option Dy} {d : Dy} : GoodO (accM o d) := by
  intro x hx
  cases o with
  | none => cases hx
  | some y => exact sumM_good hx
theorem accM_keep (o : Option Dy) (d : Dy) : accM o (if o.isSome = true then d else ⟨0, 0⟩) = accM o d := by
  cases o <;> rfl
theorem rsum_c {a h : Heap} {b : Nat} {L : List Asr} {o : Option Dy} {d : Dy} {Q : Value → Heap → Prop} (s : Sep a h (blkA b [.bool o.isSome] 93 :: L)) (ho : GoodO o) (hd : DyG d)
    (hQ : ∀ h', Sep a h' (blkA b [.bool (accM o d).isSome] 93 :: L) → Q (.agg (dyC ((accM o d).getD ⟨0, 0⟩)).toArray) h') :
    CallsV Try.prog 56 [.pointer (some ⟨b, 0, none⟩), .agg (dyC (o.getD ⟨0, 0⟩)).toArray, .agg (dyC d).toArray] h Q := by
  refine CallsV.start Try.func56 rfl (by rw [Try.results56]) (by kernel_rfl) (by rw [Try.ntmps56]; simp) ?_
  have s := ((s.newBlk (dyC (o.getD ⟨0, 0⟩)) 39 true).newBlk (dyC d) 39 true).newBlk [.int .i64 0, .int .i64 0] 39 true
  have e1 : ((h ++ [some (⟨dyC (o.getD ⟨0, 0⟩), 39, false, true⟩ : Blk)]) ++ [some (⟨dyC d, 39, false, true⟩ : Blk)]) ++ [some ⟨[.int .i64 0, .int .i64 0], 39, false, true⟩] = h ++ [some ⟨dyC (o.getD ⟨0, 0⟩), 39, false, true⟩, some ⟨dyC d, 39, false, true⟩, some ⟨[.int .i64 0, .int .i64 0], 39, false, true⟩] := by simp
  have e2 : (h ++ [some (⟨dyC (o.getD ⟨0, 0⟩), 39, false, true⟩ : Blk)]).length = h.length + 1 := by simp
  have e3 : ((h ++ [some (⟨dyC (o.getD ⟨0, 0⟩), 39, false, true⟩ : Blk)]) ++ [some (⟨dyC d, 39, false, true⟩ : Blk)]).length = h.length + 2 := by simp
  rw [e1, e2, e3] at s
  have ga := (s.pull 2 rfl).rdAll (n := 2) rfl
  have gb := (s.pull 1 rfl).rdAll (n := 2) rfl
  simp (disch := omega) only [VW, VY, VZ, VA, VB, VC, VE, TY, ↓reduceIte, Nat.reduceEqDiff, Nat.reduceAdd, Nat.reduceMul, Nat.reduceSub, Nat.reduceLeDiff, List.length_cons, List.length_nil, List.length_append, List.append_assoc, List.take_succ_cons, List.take_zero, List.drop_succ_cons, List.drop_zero, List.set_cons_zero, List.set_cons_succ, true_or, or_true, and_self, Bool.false_eq_true, Nat.le_refl, Option.bind_some, Option.map_some, Option.getD_some, Option.isSome_some, List.map_cons, List.map_nil, List.cons_append, List.nil_append, List.append_nil, List.getElem?_cons_zero, List.getElem?_cons_succ, eq_self, Int.reduceLT, Int.reduceLE, Int.reduceNeg, Int.reduceEq, ga, gb]
  refine .inl ⟨by kernel_rfl, ?_⟩; refine sumOf_c ho.get hd fun h1 E1 => ?_
  have s := s.mono E1
  rw [optV_eq]
  simp (disch := omega) only [VW, VY, VZ, VA, VB, VC, VE, TY, ↓reduceIte, Nat.reduceEqDiff, Nat.reduceAdd, Nat.reduceMul, Nat.reduceSub, Nat.reduceLeDiff, List.length_cons, List.length_nil, List.length_append, List.append_assoc, List.take_succ_cons, List.take_zero, List.drop_succ_cons, List.drop_zero, List.set_cons_zero, List.set_cons_succ, true_or, or_true, and_self, Bool.false_eq_true, Nat.le_refl, Option.bind_some, Option.map_some, Option.getD_some, Option.isSome_some, List.map_cons, List.map_nil, List.cons_append, List.nil_append, List.append_nil, List.getElem?_cons_zero, List.getElem?_cons_succ, eq_self, Int.reduceLT, Int.reduceLE, Int.reduceNeg, Int.reduceEq]
  refine .inl ⟨by kernel_rfl, ?_⟩; refine keep_c (s.pull 3 rfl) fun h2 s => ?_
  have hok : (o.isSome && (sumM' (o.getD ⟨0, 0⟩) d).isSome) = (accM o d).isSome := by cases o <;> rfl
  have hval : (if (o.isSome && (sumM' (o.getD ⟨0, 0⟩) d).isSome) = true then (sumM' (o.getD ⟨0, 0⟩) d).getD ⟨0, 0⟩ else ⟨0, 0⟩) = (accM o d).getD ⟨0, 0⟩ := by
    cases o with
    | none => rfl
    | some x =>
      show (if (true && (sumM' x d).isSome) = true then (sumM' x d).getD ⟨0, 0⟩ else ⟨0, 0⟩) = (sumM' x d).getD ⟨0, 0⟩
      cases sumM' x d <;> rfl
  rw [hval]
  rw [hok] at s
  simp (disch := omega) only [VW, VY, VZ, VA, VB, VC, VE, TY, ↓reduceIte, Nat.reduceEqDiff, Nat.reduceAdd, Nat.reduceMul, Nat.reduceSub, Nat.reduceLeDiff, List.length_cons, List.length_nil, List.length_append, List.append_assoc, List.take_succ_cons, List.take_zero, List.drop_succ_cons, List.drop_zero, List.set_cons_zero, List.set_cons_succ, true_or, or_true, and_self, Bool.false_eq_true, Nat.le_refl, Option.bind_some, Option.map_some, Option.getD_some, Option.isSome_some, List.map_cons, List.map_nil, List.cons_append, List.nil_append, List.append_nil, List.getElem?_cons_zero, List.getElem?_cons_succ, eq_self, Int.reduceLT, Int.reduceLE, Int.reduceNeg, Int.reduceEq]
  refine sep_store (s.pull 1 rfl) (by simp) fun h3 s => ?_
  have s := s.as (ds := dyC ((accM o d).getD ⟨0, 0⟩)) (by simp [t_put])
  have gz := s.rdAll (n := 2) rfl
  simp (disch := omega) only [VW, VY, VZ, VA, VB, VC, VE, TY, ↓reduceIte, Nat.reduceEqDiff, Nat.reduceAdd, Nat.reduceMul, Nat.reduceSub, Nat.reduceLeDiff, List.length_cons, List.length_nil, List.length_append, List.append_assoc, List.take_succ_cons, List.take_zero, List.drop_succ_cons, List.drop_zero, List.set_cons_zero, List.set_cons_succ, true_or, or_true, and_self, Bool.false_eq_true, Nat.le_refl, Option.bind_some, Option.map_some, Option.getD_some, Option.isSome_some, List.map_cons, List.map_nil, List.cons_append, List.nil_append, List.append_nil, List.getElem?_cons_zero, List.getElem?_cons_succ, eq_self, Int.reduceLT, Int.reduceLE, Int.reduceNeg, Int.reduceEq, gz]
  exact hQ _ ((s.tail).swap.tail.swap.tail)
end Go.Proofs

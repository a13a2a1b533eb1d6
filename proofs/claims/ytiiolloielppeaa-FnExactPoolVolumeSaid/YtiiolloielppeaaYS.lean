/- Contracts of functions, facts of types, or the plain law behind one statement (own work): YS. Conditions: those told in each theorem. -/
import Derived.Test.YtiiolloielppeaaYO
set_option linter.all false
set_option linter.unusedSimpArgs false
set_option linter.unusedVariables false
set_option maxRecDepth 4000
namespace Go.Proofs
open Go Go.V
/- MissingVolume. -/
def restL (o : Option Dy) (l : List Dy) : Option Dy := l.foldl (fun o v => accM o (negM v)) o
def missM (b : Bx) (w : Wk) : Option Dy :=
  if boxM b = true ∧ workM w b.low.length = true ∧ (volsR (lists w)).2 = true then restL (some (volM b)) (volsR (lists w)).1 else none
theorem restL_none (l : List Dy) : restL none l = none := by
  induction l with
  | nil => rfl
  | cons x l ih => exact ih
theorem restL_take {o : Option Dy} {l : List Dy} {i : Nat} {x : Dy} (h : l[i]? = some x) : restL o (l.take (i + 1)) = accM (restL o (l.take i)) (negM x) := by
  unfold restL
  rw [List.take_add_one, h, List.foldl_append]
  rfl
theorem restL_stop {o : Option Dy} {l : List Dy} {i : Nat} (h : restL o (l.take i) = none) : restL o l = none := by
  have e : l = l.take i ++ l.drop i := (List.take_append_drop i l).symm
  have : restL o l = restL (restL o (l.take i)) (l.drop i) := by
    unfold restL
    rw [← List.foldl_append, ← e]
  rw [this, h, restL_none]
theorem restL_good {o : Option Dy} (ho : GoodO o) (l : List Dy) (i : Nat) : GoodO (restL o (l.take i)) := by
  induction i with
  | zero => rw [List.take_zero]; exact ho
  | succ i ih =>
    by_cases c : i < l.length
    · obtain ⟨x, hx⟩ := get_some c
      rw [restL_take hx]
      exact accM_good
    · rw [List.take_of_length_le (by omega)] at ih ⊢
      exact ih
theorem volsR_good (ls : List (List Bx)) : ∀ d ∈ (volsR ls).1, DyG d := by
  intro d hd
  unfold volsR at hd
  split at hd
  · simp only [List.mem_map] at hd
    obtain ⟨l, _, rfl⟩ := hd
    have := (sumL_good good00 l l.length).get
    rw [List.take_length] at this
    exact this
  · simp at hd
theorem row_Dy {l : List Dy} {v : Value} {h : Heap} {i : Nat} {d : Dy} (r : Row h l v) (hi : l[i]? = some d) : cellsAt h (rowB v) (rowO v + i * 2) 2 = some (dyC d) := by
  have p := r.ptr hi
  rw [Dy.sz] at p
  exact (at_Dy p).2.2.2.2
theorem MissingVolume_s {x : Bx} {y : Wk} {cs ds : List Value} {h : Heap} {Q : Value → Heap → Prop} (hx : Here h x cs) (hy : Here h y ds) (hQ : ∀ h', Ext h h' → Q (optV (missM x y)) h') :
    CallsV Try.prog 15 [.agg cs.toArray, .agg ds.toArray] h Q := by
  have hxx := hx
  obtain ⟨v1, v2, rfl, f1, r1, r2⟩ := here_Bx hx
  have hl := Here.len hy
  rw [Wk.sz] at hl
  have tk : ds.take 5 = ds := List.take_of_length_le (Nat.le_of_eq hl)
  refine CallsV.start Try.func15 rfl (by rw [Try.results15]) (by kernel_rfl) (by rw [Try.ntmps15]; simp) ?_
  unfold missM at hQ
  have s := Sep.blk3 h [.int .i64 x.k, v1, v2] ds [.int .i64 0, .int .i64 0] 42 30 39 true true true
  have gx := (s.pull 2 rfl).rdAll (n := 3) rfl
  have gy := (s.pull 1 rfl).rdAll (n := 5) hl.symm
  simp (disch := omega) only [VW, VY, VZ, VA, VB, VC, VE, TY, ↓reduceIte, Nat.reduceEqDiff, Nat.reduceAdd, Nat.reduceMul, Nat.reduceSub, Nat.reduceLeDiff, List.length_cons, List.length_nil, List.length_append, List.append_assoc, List.take_succ_cons, List.take_zero, List.drop_succ_cons, List.drop_zero, List.set_cons_zero, List.set_cons_succ, true_or, or_true, and_self, Bool.false_eq_true, Nat.le_refl, Option.bind_some, Option.map_some, Option.getD_some, Option.isSome_some, List.map_cons, List.map_nil, List.cons_append, List.nil_append, List.append_nil, List.getElem?_cons_zero, List.getElem?_cons_succ, eq_self, Int.reduceLT, Int.reduceLE, Int.reduceNeg, Int.reduceEq, hl, tk, gx]
  refine .inl ⟨by kernel_rfl, ?_⟩; refine bxGood_c (hxx.mono s.ext) fun h1 E1 => ?_
  have s := s.mono E1
  have gx := (s.pull 2 rfl).rdAll (n := 3) rfl
  have gx1 := (s.pull 2 rfl).rd
  have gy := (s.pull 1 rfl).rdAll (n := 5) hl.symm
  have r1' := r1.mono s.ext
  cases hb : boxM x with
  | false =>
    rw [hb, if_neg (by simp), optV_eq] at hQ
    simp (disch := omega) only [VW, VY, VZ, VA, VB, VC, VE, TY, ↓reduceIte, Nat.reduceEqDiff, Nat.reduceAdd, Nat.reduceMul, Nat.reduceSub, Nat.reduceLeDiff, List.length_cons, List.length_nil, List.length_append, List.append_assoc, List.take_succ_cons, List.take_zero, List.drop_succ_cons, List.drop_zero, List.set_cons_zero, List.set_cons_succ, true_or, or_true, and_self, Bool.false_eq_true, Nat.le_refl, Option.bind_some, Option.map_some, Option.getD_some, Option.isSome_some, List.map_cons, List.map_nil, List.cons_append, List.nil_append, List.append_nil, List.getElem?_cons_zero, List.getElem?_cons_succ, eq_self, Int.reduceLT, Int.reduceLE, Int.reduceNeg, Int.reduceEq]
    refine sep_store (s.pull 0 rfl) (by simp) fun h7 s => ?_
    have s := s.as (ds := [.int .i64 0, .int .i64 0]) (by simp [t_put])
    have gz := (s.pull 0 rfl).rdAll (n := 2) rfl
    simp (disch := omega) only [VW, VY, VZ, VA, VB, VC, VE, TY, ↓reduceIte, Nat.reduceEqDiff, Nat.reduceAdd, Nat.reduceMul, Nat.reduceSub, Nat.reduceLeDiff, List.length_cons, List.length_nil, List.length_append, List.append_assoc, List.take_succ_cons, List.take_zero, List.drop_succ_cons, List.drop_zero, List.set_cons_zero, List.set_cons_succ, true_or, or_true, and_self, Bool.false_eq_true, Nat.le_refl, Option.bind_some, Option.map_some, Option.getD_some, Option.isSome_some, List.map_cons, List.map_nil, List.cons_append, List.nil_append, List.append_nil, List.getElem?_cons_zero, List.getElem?_cons_succ, eq_self, Int.reduceLT, Int.reduceLE, Int.reduceNeg, Int.reduceEq, gz]
    exact hQ _ s.ext
  | true =>
    simp (disch := omega) only [VW, VY, VZ, VA, VB, VC, VE, TY, ↓reduceIte, Nat.reduceEqDiff, Nat.reduceAdd, Nat.reduceMul, Nat.reduceSub, Nat.reduceLeDiff, List.length_cons, List.length_nil, List.length_append, List.append_assoc, List.take_succ_cons, List.take_zero, List.drop_succ_cons, List.drop_zero, List.set_cons_zero, List.set_cons_succ, true_or, or_true, and_self, Bool.false_eq_true, Nat.le_refl, Option.bind_some, Option.map_some, Option.getD_some, Option.isSome_some, List.map_cons, List.map_nil, List.cons_append, List.nil_append, List.append_nil, List.getElem?_cons_zero, List.getElem?_cons_succ, eq_self, Int.reduceLT, Int.reduceLE, Int.reduceNeg, Int.reduceEq, gy, gx1, r1'.isRow.len]
    refine .inl ⟨by kernel_rfl, ?_⟩; refine brGood_c (hy.mono s.ext) fun h2 E2 => ?_
    have s := s.mono E2
    have gy := (s.pull 1 rfl).rdAll (n := 5) hl.symm
    cases hw : workM y x.low.length with
    | false =>
      rw [hw, if_neg (by simp), optV_eq] at hQ
      simp (disch := omega) only [VW, VY, VZ, VA, VB, VC, VE, TY, ↓reduceIte, Nat.reduceEqDiff, Nat.reduceAdd, Nat.reduceMul, Nat.reduceSub, Nat.reduceLeDiff, List.length_cons, List.length_nil, List.length_append, List.append_assoc, List.take_succ_cons, List.take_zero, List.drop_succ_cons, List.drop_zero, List.set_cons_zero, List.set_cons_succ, true_or, or_true, and_self, Bool.false_eq_true, Nat.le_refl, Option.bind_some, Option.map_some, Option.getD_some, Option.isSome_some, List.map_cons, List.map_nil, List.cons_append, List.nil_append, List.append_nil, List.getElem?_cons_zero, List.getElem?_cons_succ, eq_self, Int.reduceLT, Int.reduceLE, Int.reduceNeg, Int.reduceEq]
      refine sep_store (s.pull 0 rfl) (by simp) fun h7 s => ?_
      have s := s.as (ds := [.int .i64 0, .int .i64 0]) (by simp [t_put])
      have gz := (s.pull 0 rfl).rdAll (n := 2) rfl
      simp (disch := omega) only [VW, VY, VZ, VA, VB, VC, VE, TY, ↓reduceIte, Nat.reduceEqDiff, Nat.reduceAdd, Nat.reduceMul, Nat.reduceSub, Nat.reduceLeDiff, List.length_cons, List.length_nil, List.length_append, List.append_assoc, List.take_succ_cons, List.take_zero, List.drop_succ_cons, List.drop_zero, List.set_cons_zero, List.set_cons_succ, true_or, or_true, and_self, Bool.false_eq_true, Nat.le_refl, Option.bind_some, Option.map_some, Option.getD_some, Option.isSome_some, List.map_cons, List.map_nil, List.cons_append, List.nil_append, List.append_nil, List.getElem?_cons_zero, List.getElem?_cons_succ, eq_self, Int.reduceLT, Int.reduceLE, Int.reduceNeg, Int.reduceEq, gz]
      exact hQ _ s.ext
    | true =>
      simp (disch := omega) only [VW, VY, VZ, VA, VB, VC, VE, TY, ↓reduceIte, Nat.reduceEqDiff, Nat.reduceAdd, Nat.reduceMul, Nat.reduceSub, Nat.reduceLeDiff, List.length_cons, List.length_nil, List.length_append, List.append_assoc, List.take_succ_cons, List.take_zero, List.drop_succ_cons, List.drop_zero, List.set_cons_zero, List.set_cons_succ, true_or, or_true, and_self, Bool.false_eq_true, Nat.le_refl, Option.bind_some, Option.map_some, Option.getD_some, Option.isSome_some, List.map_cons, List.map_nil, List.cons_append, List.nil_append, List.append_nil, List.getElem?_cons_zero, List.getElem?_cons_succ, eq_self, Int.reduceLT, Int.reduceLE, Int.reduceNeg, Int.reduceEq, gy]
      refine .inl ⟨by kernel_rfl, ?_⟩; refine brVolumes_c (hy.mono s.ext) hw fun w h3 s3 => ?_
      have s := s.mono s3.ext
      have rw0 := s3.rowR
      have gx := (s.pull 2 rfl).rdAll (n := 3) rfl
      cases hv : (volsR (lists y)).2 with
      | false =>
        rw [hv, if_neg (by simp), optV_eq] at hQ
        simp (disch := omega) only [VW, VY, VZ, VA, VB, VC, VE, TY, ↓reduceIte, Nat.reduceEqDiff, Nat.reduceAdd, Nat.reduceMul, Nat.reduceSub, Nat.reduceLeDiff, List.length_cons, List.length_nil, List.length_append, List.append_assoc, List.take_succ_cons, List.take_zero, List.drop_succ_cons, List.drop_zero, List.set_cons_zero, List.set_cons_succ, true_or, or_true, and_self, Bool.false_eq_true, Nat.le_refl, Option.bind_some, Option.map_some, Option.getD_some, Option.isSome_some, List.map_cons, List.map_nil, List.cons_append, List.nil_append, List.append_nil, List.getElem?_cons_zero, List.getElem?_cons_succ, eq_self, Int.reduceLT, Int.reduceLE, Int.reduceNeg, Int.reduceEq]
        refine sep_store (s.pull 0 rfl) (by simp) fun h7 s => ?_
        have s := s.as (ds := [.int .i64 0, .int .i64 0]) (by simp [t_put])
        have gz := (s.pull 0 rfl).rdAll (n := 2) rfl
        simp (disch := omega) only [VW, VY, VZ, VA, VB, VC, VE, TY, ↓reduceIte, Nat.reduceEqDiff, Nat.reduceAdd, Nat.reduceMul, Nat.reduceSub, Nat.reduceLeDiff, List.length_cons, List.length_nil, List.length_append, List.append_assoc, List.take_succ_cons, List.take_zero, List.drop_succ_cons, List.drop_zero, List.set_cons_zero, List.set_cons_succ, true_or, or_true, and_self, Bool.false_eq_true, Nat.le_refl, Option.bind_some, Option.map_some, Option.getD_some, Option.isSome_some, List.map_cons, List.map_nil, List.cons_append, List.nil_append, List.append_nil, List.getElem?_cons_zero, List.getElem?_cons_succ, eq_self, Int.reduceLT, Int.reduceLE, Int.reduceNeg, Int.reduceEq, gz]
        exact hQ _ s.ext
      | true =>
        rw [if_pos ⟨hb, hw, hv⟩] at hQ
        simp (disch := omega) only [VW, VY, VZ, VA, VB, VC, VE, TY, ↓reduceIte, Nat.reduceEqDiff, Nat.reduceAdd, Nat.reduceMul, Nat.reduceSub, Nat.reduceLeDiff, List.length_cons, List.length_nil, List.length_append, List.append_assoc, List.take_succ_cons, List.take_zero, List.drop_succ_cons, List.drop_zero, List.set_cons_zero, List.set_cons_succ, true_or, or_true, and_self, Bool.false_eq_true, Nat.le_refl, Option.bind_some, Option.map_some, Option.getD_some, Option.isSome_some, List.map_cons, List.map_nil, List.cons_append, List.nil_append, List.append_nil, List.getElem?_cons_zero, List.getElem?_cons_succ, eq_self, Int.reduceLT, Int.reduceLE, Int.reduceNeg, Int.reduceEq, gx]
        refine .inl ⟨by kernel_rfl, ?_⟩; refine bxVolume_c (hxx.mono s.ext) hb fun h4 E4 => ?_
        have s := s.mono E4
        have rw0 := rw0.mono E4
        have u := (Sep.nil (.refl h4)).newBlk (dyC (volM x)) 39 true
        have hvg := (volM_eq hb).2
        have hgo : GoodO (some (volM x)) := by intro d hd; cases hd; exact hvg
        generalize hL : (volsR (lists y)).1 = L at *
        have hLg : ∀ d ∈ L, DyG d := by rw [← hL]; exact volsR_good _
        have hLe := rw0.le
        have rwu := rw0.mono u.ext
        simp (disch := omega) only [VW, VY, VZ, VA, VB, VC, VE, TY, ↓reduceIte, Nat.reduceEqDiff, Nat.reduceAdd, Nat.reduceMul, Nat.reduceSub, Nat.reduceLeDiff, List.length_cons, List.length_nil, List.length_append, List.append_assoc, List.take_succ_cons, List.take_zero, List.drop_succ_cons, List.drop_zero, List.set_cons_zero, List.set_cons_succ, true_or, or_true, and_self, Bool.false_eq_true, Nat.le_refl, Option.bind_some, Option.map_some, Option.getD_some, Option.isSome_some, List.map_cons, List.map_nil, List.cons_append, List.nil_append, List.append_nil, List.getElem?_cons_zero, List.getElem?_cons_succ, eq_self, Int.reduceLT, Int.reduceLE, Int.reduceNeg, Int.reduceEq, rwu.isRow.len]
        refine loop_rule (fun n e h' => ∃ (i : Nat) (d : Dy), e 4 = .pointer (some ⟨h.length + 2, 0, none⟩) ∧ e 5 = .bool false ∧ e 8 = .pointer (some ⟨h4.length, 0, none⟩) ∧ e 35 = w ∧ e 36 = .int .i64 L.length ∧ e 37 = .int .i64 i ∧ i ≤ L.length ∧ n = L.length - i ∧ restL (some (volM x)) (L.take i) = some d ∧ Sep h4 h' [blkA h4.length (dyC d) 39]) ?_ L.length _ _
          ⟨0, volM x, rfl, rfl, rfl, rfl, rfl, rfl, by omega, rfl, rfl, u⟩
        rintro n e h' ⟨i, d, e4, e5, e8, e35, e36, e37, hi, rfl, hd, u⟩
        have s := s.mono u.ext
        have rw1 := rw0.mono u.ext
        simp (disch := omega) only [VW, VY, VZ, VA, VB, VC, VE, TY, ↓reduceIte, Nat.reduceEqDiff, Nat.reduceAdd, Nat.reduceMul, Nat.reduceSub, Nat.reduceLeDiff, List.length_cons, List.length_nil, List.length_append, List.append_assoc, List.take_succ_cons, List.take_zero, List.drop_succ_cons, List.drop_zero, List.set_cons_zero, List.set_cons_succ, true_or, or_true, and_self, Bool.false_eq_true, Nat.le_refl, Option.bind_some, Option.map_some, Option.getD_some, Option.isSome_some, List.map_cons, List.map_nil, List.cons_append, List.nil_append, List.append_nil, List.getElem?_cons_zero, List.getElem?_cons_succ, eq_self, Int.reduceLT, Int.reduceLE, Int.reduceNeg, Int.reduceEq, e36, e37]
        by_cases hlt : i < L.length
        · obtain ⟨z, hz⟩ := get_some hlt
          have q1 : (i : Int) < (L.length : Int) := by omega
          have hzg := hLg z (List.mem_of_getElem? hz)
          have hdg := restL_good hgo L i d hd
          have cz := row_Dy rw1 hz
          simp (disch := omega) only [VW, VY, VZ, VA, VB, VC, VE, TY, ↓reduceIte, Nat.reduceEqDiff, Nat.reduceAdd, Nat.reduceMul, Nat.reduceSub, Nat.reduceLeDiff, List.length_cons, List.length_nil, List.length_append, List.append_assoc, List.take_succ_cons, List.take_zero, List.drop_succ_cons, List.drop_zero, List.set_cons_zero, List.set_cons_succ, true_or, or_true, and_self, Bool.false_eq_true, Nat.le_refl, Option.bind_some, Option.map_some, Option.getD_some, Option.isSome_some, List.map_cons, List.map_nil, List.cons_append, List.nil_append, List.append_nil, List.getElem?_cons_zero, List.getElem?_cons_succ, eq_self, Int.reduceLT, Int.reduceLE, Int.reduceNeg, Int.reduceEq, e35, e37, q1, rw1.isRow.ix, cz]
          have u2 := u.newBlk (dyC z) 39 true
          have gd := (u2.pull 1 rfl).rdAll (n := 2) rfl
          have gzz := (u2.pull 0 rfl).rdAll (n := 2) rfl
          simp (disch := omega) only [VW, VY, VZ, VA, VB, VC, VE, TY, ↓reduceIte, Nat.reduceEqDiff, Nat.reduceAdd, Nat.reduceMul, Nat.reduceSub, Nat.reduceLeDiff, List.length_cons, List.length_nil, List.length_append, List.append_assoc, List.take_succ_cons, List.take_zero, List.drop_succ_cons, List.drop_zero, List.set_cons_zero, List.set_cons_succ, true_or, or_true, and_self, Bool.false_eq_true, Nat.le_refl, Option.bind_some, Option.map_some, Option.getD_some, Option.isSome_some, List.map_cons, List.map_nil, List.cons_append, List.nil_append, List.append_nil, List.getElem?_cons_zero, List.getElem?_cons_succ, eq_self, Int.reduceLT, Int.reduceLE, Int.reduceNeg, Int.reduceEq, e8, gd, gzz]
          refine .inl ⟨by kernel_rfl, ?_⟩; refine dySub_c hdg hzg fun h5 E5 => ?_
          have u3 := u2.mono E5
          cases hac : sumM' d (negM z) with
          | none =>
            have hst : restL (some (volM x)) (L.take (i + 1)) = none := by rw [restL_take hz, hd]; exact hac
            rw [restL_stop hst, optV_eq] at hQ
            rw [show optV none = .tuple #[.agg (dyC ⟨0, 0⟩).toArray, .bool false] from rfl]
            have s := s.mono ((Ext.one h' (some ⟨dyC z, 39, false, true⟩)).trans E5)
            have s := s.mono (Ext.one h5 (some ⟨dyC ⟨0, 0⟩, 39, false, true⟩))
            simp (disch := omega) only [VW, VY, VZ, VA, VB, VC, VE, TY, ↓reduceIte, Nat.reduceEqDiff, Nat.reduceAdd, Nat.reduceMul, Nat.reduceSub, Nat.reduceLeDiff, List.length_cons, List.length_nil, List.length_append, List.append_assoc, List.take_succ_cons, List.take_zero, List.drop_succ_cons, List.drop_zero, List.set_cons_zero, List.set_cons_succ, true_or, or_true, and_self, Bool.false_eq_true, Nat.le_refl, Option.bind_some, Option.map_some, Option.getD_some, Option.isSome_some, List.map_cons, List.map_nil, List.cons_append, List.nil_append, List.append_nil, List.getElem?_cons_zero, List.getElem?_cons_succ, eq_self, Int.reduceLT, Int.reduceLE, Int.reduceNeg, Int.reduceEq, e4]
            refine sep_store (s.pull 0 rfl) (by simp) fun h7 s => ?_
            have s := s.as (ds := [.int .i64 0, .int .i64 0]) (by simp [t_put])
            have gz := (s.pull 0 rfl).rdAll (n := 2) rfl
            simp (disch := omega) only [VW, VY, VZ, VA, VB, VC, VE, TY, ↓reduceIte, Nat.reduceEqDiff, Nat.reduceAdd, Nat.reduceMul, Nat.reduceSub, Nat.reduceLeDiff, List.length_cons, List.length_nil, List.length_append, List.append_assoc, List.take_succ_cons, List.take_zero, List.drop_succ_cons, List.drop_zero, List.set_cons_zero, List.set_cons_succ, true_or, or_true, and_self, Bool.false_eq_true, Nat.le_refl, Option.bind_some, Option.map_some, Option.getD_some, Option.isSome_some, List.map_cons, List.map_nil, List.cons_append, List.nil_append, List.append_nil, List.getElem?_cons_zero, List.getElem?_cons_succ, eq_self, Int.reduceLT, Int.reduceLE, Int.reduceNeg, Int.reduceEq, gz, e4]
            exact hQ _ s.ext
          | some d' =>
            have hst : restL (some (volM x)) (L.take (i + 1)) = some d' := by rw [restL_take hz, hd]; exact hac
            rw [show optV (some d') = .tuple #[.agg (dyC d').toArray, .bool true] from rfl]
            have u4 := u3.newBlk (dyC d') 39 true
            have gn := (u4.pull 0 rfl).rdAll (n := 2) rfl
            simp (disch := omega) only [VW, VY, VZ, VA, VB, VC, VE, TY, ↓reduceIte, Nat.reduceEqDiff, Nat.reduceAdd, Nat.reduceMul, Nat.reduceSub, Nat.reduceLeDiff, List.length_cons, List.length_nil, List.length_append, List.append_assoc, List.take_succ_cons, List.take_zero, List.drop_succ_cons, List.drop_zero, List.set_cons_zero, List.set_cons_succ, true_or, or_true, and_self, Bool.false_eq_true, Nat.le_refl, Option.bind_some, Option.map_some, Option.getD_some, Option.isSome_some, List.map_cons, List.map_nil, List.cons_append, List.nil_append, List.append_nil, List.getElem?_cons_zero, List.getElem?_cons_succ, eq_self, Int.reduceLT, Int.reduceLE, Int.reduceNeg, Int.reduceEq, gn, e8]
            refine sep_store (u4.pull 2 rfl) (by simp) fun h7 u7 => ?_
            have u7 := u7.as (ds := dyC d') (by simp [t_put])
            simp (disch := omega) only [VW, VY, VZ, VA, VB, VC, VE, TY, ↓reduceIte, Nat.reduceEqDiff, Nat.reduceAdd, Nat.reduceMul, Nat.reduceSub, Nat.reduceLeDiff, List.length_cons, List.length_nil, List.length_append, List.append_assoc, List.take_succ_cons, List.take_zero, List.drop_succ_cons, List.drop_zero, List.set_cons_zero, List.set_cons_succ, true_or, or_true, and_self, Bool.false_eq_true, Nat.le_refl, Option.bind_some, Option.map_some, Option.getD_some, Option.isSome_some, List.map_cons, List.map_nil, List.cons_append, List.nil_append, List.append_nil, List.getElem?_cons_zero, List.getElem?_cons_succ, eq_self, Int.reduceLT, Int.reduceLE, Int.reduceNeg, Int.reduceEq, e4, e5, e8, e35, e36, e37, wrap_in]
            exact ⟨_, by omega, i + 1, d', by simp, by omega, rfl, hst, u7.head⟩
        · obtain rfl : i = L.length := by omega
          have q1 : ¬ (L.length : Int) < (L.length : Int) := by omega
          rw [List.take_length] at hd
          rw [hd, optV_eq] at hQ
          have gd := u.rdAll (n := 2) rfl
          simp (disch := omega) only [VW, VY, VZ, VA, VB, VC, VE, TY, ↓reduceIte, Nat.reduceEqDiff, Nat.reduceAdd, Nat.reduceMul, Nat.reduceSub, Nat.reduceLeDiff, List.length_cons, List.length_nil, List.length_append, List.append_assoc, List.take_succ_cons, List.take_zero, List.drop_succ_cons, List.drop_zero, List.set_cons_zero, List.set_cons_succ, true_or, or_true, and_self, Bool.false_eq_true, Nat.le_refl, Option.bind_some, Option.map_some, Option.getD_some, Option.isSome_some, List.map_cons, List.map_nil, List.cons_append, List.nil_append, List.append_nil, List.getElem?_cons_zero, List.getElem?_cons_succ, eq_self, Int.reduceLT, Int.reduceLE, Int.reduceNeg, Int.reduceEq, e8, q1, gd, e4]
          refine sep_store (s.pull 0 rfl) (by simp) fun h7 s => ?_
          have s := s.as (ds := dyC d) (by simp [t_put])
          have gz := (s.pull 0 rfl).rdAll (n := 2) rfl
          simp (disch := omega) only [VW, VY, VZ, VA, VB, VC, VE, TY, ↓reduceIte, Nat.reduceEqDiff, Nat.reduceAdd, Nat.reduceMul, Nat.reduceSub, Nat.reduceLeDiff, List.length_cons, List.length_nil, List.length_append, List.append_assoc, List.take_succ_cons, List.take_zero, List.drop_succ_cons, List.drop_zero, List.set_cons_zero, List.set_cons_succ, true_or, or_true, and_self, Bool.false_eq_true, Nat.le_refl, Option.bind_some, Option.map_some, Option.getD_some, Option.isSome_some, List.map_cons, List.map_nil, List.cons_append, List.nil_append, List.append_nil, List.getElem?_cons_zero, List.getElem?_cons_succ, eq_self, Int.reduceLT, Int.reduceLE, Int.reduceNeg, Int.reduceEq, gz, e4]
          exact hQ _ s.ext
end Go.Proofs

/- Contracts of functions, facts of types, or the plain law behind one statement (own work): Q11. Conditions: those told in each theorem. -/
import Derived.Test.YtiiolloielppeaaGreatDoorQ10
set_option linter.all false
set_option linter.unusedSimpArgs false
set_option linter.unusedVariables false
set_option maxRecDepth 4000
set_option linter.unusedSectionVars false
namespace Go.Proofs
open Go Go.V
theorem foldSM_step {st : Wk} {r : List (List UInt8)} {i : Nat} {x : List UInt8} (h : r[i]? = some x) : (r.take (i + 1)).foldl stepS (some st) = stepS ((r.take i).foldl stepS (some st)) x := by
  rw [List.take_add_one, h, List.foldl_append]; rfl
theorem foldSM_stop {st : Wk} {r : List (List UInt8)} {i : Nat} (h : (r.take i).foldl stepS (some st) = none) : r.foldl stepS (some st) = none := by
  conv => lhs; rw [← List.take_append_drop i r]
  rw [List.foldl_append, h, foldS_none]
theorem stepS_short {w : Wk} {x : List UInt8} (h : ¬ (nameS x).length + 2 ≤ x.length) : stepS (some w) x = none := if_neg h
theorem stepS_none1 {w : Wk} {x : List UInt8} (hl : (nameS x).length + 2 ≤ x.length) (h : idxN (nameS x) = none) : stepS (some w) x = none := by
  unfold stepS; simp only []; rw [if_pos hl, h]
  cases boxI (x.drop ((nameS x).length + 1)) <;> rfl
theorem stepS_none2 {w : Wk} {x : List UInt8} (hl : (nameS x).length + 2 ≤ x.length) (h : boxI (x.drop ((nameS x).length + 1)) = none) : stepS (some w) x = none := by
  unfold stepS; simp only []; rw [if_pos hl, h]
theorem stepS_some {w : Wk} {x : List UInt8} {k : Nat} {b : Bx} (hl : (nameS x).length + 2 ≤ x.length) (h1 : idxN (nameS x) = some k) (h2 : boxI (x.drop ((nameS x).length + 1)) = some b) : stepS (some w) x = some (putW w k b) := by
  unfold stepS; simp only []; rw [if_pos hl, h1, h2]
theorem putW_WB {w : Wk} {k i : Nat} {b : Bx} (h : WB w i) : WB (putW w k b) (i + 1) := by
  obtain ⟨b0, b1, b2, b3⟩ := h
  unfold WB putW
  split <;> simp <;> omega
theorem putW_steps (w : Wk) (k : Nat) (b : Bx) : (putW w k b).steps = w.steps := by unfold putW; split <;> rfl
theorem cpParse_c {s : ByteArray} {t_ : Int} {h : Heap} {Q : Value → Heap → Prop} (hs : s.size ≤ 1000000)
    (hQ : ∀ cs h', Sep h h' [repA ((workI s.data.toList t_).getD wkZ) cs] → Q (.tuple #[.agg cs.toArray, .bool (workI s.data.toList t_).isSome]) h') :
    CallsV Tryz.prog 16 [.string s, .int .i64 t_] h Q := by
  rw [← workS_eq] at hQ
  refine CallsV.start Tryz.func16 rfl (by rw [Tryz.results16]) (by kernel_rfl) (by rw [Tryz.ntmps16]; simp) ?_
  have hl := str_len s
  have u := Sep.blk1 h [.slice none 0 0, .slice none 0 0, .slice none 0 0, .slice none 0 0, .int .i64 0] 24 true
  have c10 : ((10 : UInt8).toNat : Int) = 10 := rfl
  have c32 : ((32 : UInt8).toNat : Int) = 32 := rfl
  simp (disch := omega) only [VW, VY, VZ, VA, VB, VC, VE, TY, ↓reduceIte, Nat.reduceEqDiff, Nat.reduceAdd, Nat.reduceMul, Nat.reduceSub, Nat.reduceLeDiff, List.length_cons, List.length_nil, List.length_append, List.append_assoc, List.take_succ_cons, List.take_zero, List.drop_succ_cons, List.drop_zero, List.set_cons_zero, List.set_cons_succ, true_or, or_true, and_self, Bool.false_eq_true, Nat.le_refl, Option.bind_some, Option.map_some, Option.getD_some, Option.isSome_some, List.map_cons, List.map_nil, List.cons_append, List.nil_append, List.append_nil, List.getElem?_cons_zero, List.getElem?_cons_succ, eq_self, Int.reduceLT, Int.reduceLE, Int.reduceNeg, Int.reduceEq]
  rw [← c10]
  refine .inl ⟨by kernel_rfl, ?_⟩; refine l1Split_c hs fun v h1 E1 rw0 => ?_
  have u := u.mono E1
  rw [c10]
  simp (disch := omega) only [VW, VY, VZ, VA, VB, VC, VE, TY, ↓reduceIte, Nat.reduceEqDiff, Nat.reduceAdd, Nat.reduceMul, Nat.reduceSub, Nat.reduceLeDiff, List.length_cons, List.length_nil, List.length_append, List.append_assoc, List.take_succ_cons, List.take_zero, List.drop_succ_cons, List.drop_zero, List.set_cons_zero, List.set_cons_succ, true_or, or_true, and_self, Bool.false_eq_true, Nat.le_refl, Option.bind_some, Option.map_some, Option.getD_some, Option.isSome_some, List.map_cons, List.map_nil, List.cons_append, List.nil_append, List.append_nil, List.getElem?_cons_zero, List.getElem?_cons_succ, eq_self, Int.reduceLT, Int.reduceLE, Int.reduceNeg, Int.reduceEq]
  refine .inl ⟨by kernel_rfl, ?_⟩; refine cpPlain_c (by omega) ?_
  have hls := splitL_len 10 s.data.toList
  have hW0 : workS s.data.toList t_ = if workSh s.data.toList then finM s.data.toList t_ ((splitL 10 s.data.toList).tail.dropLast.foldl stepS (some (startS (splitL 10 s.data.toList)))) else none := rfl
  cases hL : splitL 10 s.data.toList with
  | nil => exact absurd hL (splitL_ne _ _)
  | cons L0 R =>
  rw [hL] at rw0 hls
  have hsh : workSh s.data.toList ↔ (plainM s = true ∧ 2 ≤ R.length + 1 ∧ R.length + 1 ≤ 162 ∧ 7 ≤ L0.length) := by
    unfold workSh; rw [hL]; rfl
  have hW : workSh s.data.toList → workS s.data.toList t_ = finM s.data.toList t_ (R.dropLast.foldl stepS (some ⟨[], [], [], [], readM (L0.drop 6)⟩)) := fun c => by
    rw [hW0, if_pos c]; unfold startS; rw [hL]; rfl
  have bad : ¬ (plainM s = true ∧ 2 ≤ R.length + 1 ∧ R.length + 1 ≤ 162 ∧ 7 ≤ L0.length) → workS s.data.toList t_ = none := fun k => by rw [hW0, if_neg (fun c => k (hsh.1 c))]
  clear hW0
  have hxl : ∀ x ∈ L0 :: R, x.length ≤ 1000000 := fun x hx => by have := hls x hx; omega
  have hN : ((L0 :: R).map bL).length = R.length + 1 := by simp
  have hle := rw0.le
  have g0 := (row_str rw0 (show ((L0 :: R).map bL)[0]? = some (bL L0) by rfl)).1
  rw [Nat.add_zero] at g0
  have z0 : (bL L0).size = L0.length := bL_size L0
  have hL0 := hxl L0 (by simp)
  have len := rw0.isRow.len Tryz.prog
  have rix := rw0.isRow.ix Tryz.prog
  have rsl := rw0.isRow.sl
  have rcap := rw0.isRow.cap
  rw [hN] at len rix rsl rcap
  have q0 : (0 : Int) < ((R.length + 1 : Nat) : Int) := by omega
  cases hp : plainM s with
  | false =>
    rw [bad (by rw [hp]; simp)] at hQ
    simp (disch := omega) only [VW, VY, VZ, VA, VB, VC, VE, TY, ↓reduceIte, Nat.reduceEqDiff, Nat.reduceAdd, Nat.reduceMul, Nat.reduceSub, Nat.reduceLeDiff, List.length_cons, List.length_nil, List.length_append, List.append_assoc, List.take_succ_cons, List.take_zero, List.drop_succ_cons, List.drop_zero, List.set_cons_zero, List.set_cons_succ, true_or, or_true, and_self, Bool.false_eq_true, Nat.le_refl, Option.bind_some, Option.map_some, Option.getD_some, Option.isSome_some, List.map_cons, List.map_nil, List.cons_append, List.nil_append, List.append_nil, List.getElem?_cons_zero, List.getElem?_cons_succ, eq_self, Int.reduceLT, Int.reduceLE, Int.reduceNeg, Int.reduceEq]
    refine sep_store u (by simp) fun h5 u => ?_
    have u := u.as (ds := [.slice none 0 0, .slice none 0 0, .slice none 0 0, .slice none 0 0, .int .i64 0]) (by simp [t_put])
    have gz := u.rdAll (n := 5) rfl
    simp (disch := omega) only [VW, VY, VZ, VA, VB, VC, VE, TY, ↓reduceIte, Nat.reduceEqDiff, Nat.reduceAdd, Nat.reduceMul, Nat.reduceSub, Nat.reduceLeDiff, List.length_cons, List.length_nil, List.length_append, List.append_assoc, List.take_succ_cons, List.take_zero, List.drop_succ_cons, List.drop_zero, List.set_cons_zero, List.set_cons_succ, true_or, or_true, and_self, Bool.false_eq_true, Nat.le_refl, Option.bind_some, Option.map_some, Option.getD_some, Option.isSome_some, List.map_cons, List.map_nil, List.cons_append, List.nil_append, List.append_nil, List.getElem?_cons_zero, List.getElem?_cons_succ, eq_self, Int.reduceLT, Int.reduceLE, Int.reduceNeg, Int.reduceEq, gz]
    exact hQ _ _ (wk_zero u).head
  | true =>
  by_cases c1 : ((R.length + 1 : Nat) : Int) < 2
  · rw [bad (by omega)] at hQ
    simp (disch := omega) only [VW, VY, VZ, VA, VB, VC, VE, TY, ↓reduceIte, Nat.reduceEqDiff, Nat.reduceAdd, Nat.reduceMul, Nat.reduceSub, Nat.reduceLeDiff, List.length_cons, List.length_nil, List.length_append, List.append_assoc, List.take_succ_cons, List.take_zero, List.drop_succ_cons, List.drop_zero, List.set_cons_zero, List.set_cons_succ, true_or, or_true, and_self, Bool.false_eq_true, Nat.le_refl, Option.bind_some, Option.map_some, Option.getD_some, Option.isSome_some, List.map_cons, List.map_nil, List.cons_append, List.nil_append, List.append_nil, List.getElem?_cons_zero, List.getElem?_cons_succ, eq_self, Int.reduceLT, Int.reduceLE, Int.reduceNeg, Int.reduceEq, len, c1]
    refine sep_store u (by simp) fun h5 u => ?_
    have u := u.as (ds := [.slice none 0 0, .slice none 0 0, .slice none 0 0, .slice none 0 0, .int .i64 0]) (by simp [t_put])
    have gz := u.rdAll (n := 5) rfl
    simp (disch := omega) only [VW, VY, VZ, VA, VB, VC, VE, TY, ↓reduceIte, Nat.reduceEqDiff, Nat.reduceAdd, Nat.reduceMul, Nat.reduceSub, Nat.reduceLeDiff, List.length_cons, List.length_nil, List.length_append, List.append_assoc, List.take_succ_cons, List.take_zero, List.drop_succ_cons, List.drop_zero, List.set_cons_zero, List.set_cons_succ, true_or, or_true, and_self, Bool.false_eq_true, Nat.le_refl, Option.bind_some, Option.map_some, Option.getD_some, Option.isSome_some, List.map_cons, List.map_nil, List.cons_append, List.nil_append, List.append_nil, List.getElem?_cons_zero, List.getElem?_cons_succ, eq_self, Int.reduceLT, Int.reduceLE, Int.reduceNeg, Int.reduceEq, gz]
    exact hQ _ _ (wk_zero u).head
  by_cases c2 : (162 : Int) < ((R.length + 1 : Nat) : Int)
  · rw [bad (by omega)] at hQ
    simp (disch := omega) only [VW, VY, VZ, VA, VB, VC, VE, TY, ↓reduceIte, Nat.reduceEqDiff, Nat.reduceAdd, Nat.reduceMul, Nat.reduceSub, Nat.reduceLeDiff, List.length_cons, List.length_nil, List.length_append, List.append_assoc, List.take_succ_cons, List.take_zero, List.drop_succ_cons, List.drop_zero, List.set_cons_zero, List.set_cons_succ, true_or, or_true, and_self, Bool.false_eq_true, Nat.le_refl, Option.bind_some, Option.map_some, Option.getD_some, Option.isSome_some, List.map_cons, List.map_nil, List.cons_append, List.nil_append, List.append_nil, List.getElem?_cons_zero, List.getElem?_cons_succ, eq_self, Int.reduceLT, Int.reduceLE, Int.reduceNeg, Int.reduceEq, len, c1, c2]
    refine sep_store u (by simp) fun h5 u => ?_
    have u := u.as (ds := [.slice none 0 0, .slice none 0 0, .slice none 0 0, .slice none 0 0, .int .i64 0]) (by simp [t_put])
    have gz := u.rdAll (n := 5) rfl
    simp (disch := omega) only [VW, VY, VZ, VA, VB, VC, VE, TY, ↓reduceIte, Nat.reduceEqDiff, Nat.reduceAdd, Nat.reduceMul, Nat.reduceSub, Nat.reduceLeDiff, List.length_cons, List.length_nil, List.length_append, List.append_assoc, List.take_succ_cons, List.take_zero, List.drop_succ_cons, List.drop_zero, List.set_cons_zero, List.set_cons_succ, true_or, or_true, and_self, Bool.false_eq_true, Nat.le_refl, Option.bind_some, Option.map_some, Option.getD_some, Option.isSome_some, List.map_cons, List.map_nil, List.cons_append, List.nil_append, List.append_nil, List.getElem?_cons_zero, List.getElem?_cons_succ, eq_self, Int.reduceLT, Int.reduceLE, Int.reduceNeg, Int.reduceEq, gz]
    exact hQ _ _ (wk_zero u).head
  by_cases c3 : (L0.length : Int) < 7
  · rw [bad (by omega)] at hQ
    simp (disch := omega) only [VW, VY, VZ, VA, VB, VC, VE, TY, ↓reduceIte, Nat.reduceEqDiff, Nat.reduceAdd, Nat.reduceMul, Nat.reduceSub, Nat.reduceLeDiff, List.length_cons, List.length_nil, List.length_append, List.append_assoc, List.take_succ_cons, List.take_zero, List.drop_succ_cons, List.drop_zero, List.set_cons_zero, List.set_cons_succ, true_or, or_true, and_self, Bool.false_eq_true, Nat.le_refl, Option.bind_some, Option.map_some, Option.getD_some, Option.isSome_some, List.map_cons, List.map_nil, List.cons_append, List.nil_append, List.append_nil, List.getElem?_cons_zero, List.getElem?_cons_succ, eq_self, Int.reduceLT, Int.reduceLE, Int.reduceNeg, Int.reduceEq, len, c1, c2, c3, rix, q0, g0, z0]
    refine sep_store u (by simp) fun h5 u => ?_
    have u := u.as (ds := [.slice none 0 0, .slice none 0 0, .slice none 0 0, .slice none 0 0, .int .i64 0]) (by simp [t_put])
    have gz := u.rdAll (n := 5) rfl
    simp (disch := omega) only [VW, VY, VZ, VA, VB, VC, VE, TY, ↓reduceIte, Nat.reduceEqDiff, Nat.reduceAdd, Nat.reduceMul, Nat.reduceSub, Nat.reduceLeDiff, List.length_cons, List.length_nil, List.length_append, List.append_assoc, List.take_succ_cons, List.take_zero, List.drop_succ_cons, List.drop_zero, List.set_cons_zero, List.set_cons_succ, true_or, or_true, and_self, Bool.false_eq_true, Nat.le_refl, Option.bind_some, Option.map_some, Option.getD_some, Option.isSome_some, List.map_cons, List.map_nil, List.cons_append, List.nil_append, List.append_nil, List.getElem?_cons_zero, List.getElem?_cons_succ, eq_self, Int.reduceLT, Int.reduceLE, Int.reduceNeg, Int.reduceEq, gz]
    exact hQ _ _ (wk_zero u).head
  rw [hW (hsh.2 ⟨hp, by omega, by omega, by omega⟩)] at hQ
  have k1 : (0 : Int) ≤ 6 := by decide
  have k2 : (6 : Int) ≤ (L0.length : Int) := by omega
  have k3 : (6 : Int).toNat = 6 := rfl
  have hxr : ((bL L0).extract 6 L0.length).data.toList = L0.drop 6 := by rw [extract_list]; simp [bL]
  have hzr : ((bL L0).extract 6 L0.length).size ≤ 1000000 := by rw [ByteArray.size_extract]; omega
  simp (disch := omega) only [VW, VY, VZ, VA, VB, VC, VE, TY, ↓reduceIte, Nat.reduceEqDiff, Nat.reduceAdd, Nat.reduceMul, Nat.reduceSub, Nat.reduceLeDiff, List.length_cons, List.length_nil, List.length_append, List.append_assoc, List.take_succ_cons, List.take_zero, List.drop_succ_cons, List.drop_zero, List.set_cons_zero, List.set_cons_succ, true_or, or_true, and_self, Bool.false_eq_true, Nat.le_refl, Option.bind_some, Option.map_some, Option.getD_some, Option.isSome_some, List.map_cons, List.map_nil, List.cons_append, List.nil_append, List.append_nil, List.getElem?_cons_zero, List.getElem?_cons_succ, eq_self, Int.reduceLT, Int.reduceLE, Int.reduceNeg, Int.reduceEq, len, c1, c2, c3, rix, q0, g0, z0, k1, k2, k3]
  refine .inl ⟨by kernel_rfl, ?_⟩; refine l1Read_c hzr ?_
  rw [hxr]
  have t0 := (Sep.nil (.refl h1)).newBlk [.slice none 0 0, .slice none 0 0, .slice none 0 0, .slice none 0 0, .int .i64 (readM (L0.drop 6))] 24 true
  have e1 : ((R.length + 1 : Nat) : Int) - 1 = (R.length : Int) := by omega
  have m1 : (0 : Int) ≤ 1 := by decide
  have m2 : (1 : Int) ≤ (R.length : Int) := by omega
  have m3 : (1 : Int).toNat = 1 := rfl
  have m4 : (R.length : Int) ≤ (rowC v : Int) := by omega
  have m5 : (R.length : Int).toNat = R.length := rfl
  have m6 : (0 : Int) ≤ (R.length : Int) := by omega
  have hcut := rw0.cut (lo := 1) (m := R.length) (by omega) (by simp)
  have hcl : (((L0 :: R).map bL).take R.length).drop 1 = R.dropLast.map bL := by
    rw [List.dropLast_eq_take, List.map_take]
    cases hR : R with
    | nil => rfl
    | cons a b => simp
  rw [hcl] at hcut
  have hcut : Row h1 (R.dropLast.map bL) (cutV v 1 1 R.length) := hcut
  generalize hls2 : R.dropLast = ls at *
  have hlsl : ls.length = R.length - 1 := by rw [← hls2]; simp
  have hxs : ∀ x ∈ ls, x.length ≤ 1000000 := fun x hx => hxl x (by
    rw [← hls2] at hx
    rw [List.dropLast_eq_take] at hx
    exact List.mem_cons_of_mem _ (List.mem_of_mem_take hx))
  have hM : (ls.map bL).length = ls.length := by simp
  have len2 := hcut.isRow.len Tryz.prog
  have rix2 := hcut.isRow.ix Tryz.prog
  rw [hM] at len2 rix2
  simp (disch := omega) only [VW, VY, VZ, VA, VB, VC, VE, TY, ↓reduceIte, Nat.reduceEqDiff, Nat.reduceAdd, Nat.reduceMul, Nat.reduceSub, Nat.reduceLeDiff, List.length_cons, List.length_nil, List.length_append, List.append_assoc, List.take_succ_cons, List.take_zero, List.drop_succ_cons, List.drop_zero, List.set_cons_zero, List.set_cons_succ, true_or, or_true, and_self, Bool.false_eq_true, Nat.le_refl, Option.bind_some, Option.map_some, Option.getD_some, Option.isSome_some, List.map_cons, List.map_nil, List.cons_append, List.nil_append, List.append_nil, List.getElem?_cons_zero, List.getElem?_cons_succ, eq_self, Int.reduceLT, Int.reduceLE, Int.reduceNeg, Int.reduceEq, len, e1, wrap_in, rsl, m1, m2, m3, m4, m5, m6, len2]
  generalize hst0 : (⟨[], [], [], [], readM (L0.drop 6)⟩ : Wk) = st0 at *
  have hs0 : st0.steps = readM (L0.drop 6) := by rw [← hst0]
  have ht0 : Sep h1 (h1 ++ [some ⟨[.slice none 0 0, .slice none 0 0, .slice none 0 0, .slice none 0 0, .int .i64 (readM (L0.drop 6))], 24, false, true⟩]) [blkA h1.length [.slice none 0 0, .slice none 0 0, .slice none 0 0, .slice none 0 0, .int .i64 st0.steps] 24, ownA 38 st0.opened (.slice none 0 0), ownA 38 st0.free (.slice none 0 0), ownA 38 st0.holds (.slice none 0 0), ownA 38 st0.kept (.slice none 0 0)] := by
    rw [← hst0]
    exact ((((t0.nilA 38 (α := Bx)).nilA 38 (α := Bx)).nilA 38 (α := Bx)).nilA 38 (α := Bx)).pull 4 rfl
  have hsi : inI64 st0.steps := by rw [hs0]; exact readM_in _
  have hwb0 : WB st0 0 := by rw [← hst0]; exact ⟨by simp, by simp, by simp, by simp⟩
  refine loop_rule (fun n e h' => ∃ (i : Nat) (v0 v1 v2 v3 : Value) (w : Wk), e 0 = .string s ∧ e 1 = .int .i64 t_ ∧ e 4 = .pointer (some ⟨h.length, 0, none⟩) ∧ e 7 = .pointer (some ⟨h1.length, 0, none⟩) ∧ e 48 = cutV v 1 1 R.length ∧ e 49 = .int .i64 (ls.length : Int) ∧ e 50 = .int .i64 (i : Int) ∧ i ≤ ls.length ∧ n = ls.length - i ∧ (ls.take i).foldl stepS (some st0) = some w ∧ WB w i ∧ inI64 w.steps ∧
    Sep h1 h' [blkA h1.length [v0, v1, v2, v3, .int .i64 w.steps] 24, ownA 38 w.opened v0, ownA 38 w.free v1, ownA 38 w.holds v2, ownA 38 w.kept v3]) ?_ ls.length _ _
    ⟨0, _, _, _, _, st0, rfl, rfl, rfl, rfl, rfl, rfl, rfl, by omega, rfl, rfl, hwb0, hsi, ht0⟩
  rintro n e h' ⟨i, v0, v1, v2, v3, w, e0, e1, e4, e7, e48, e49, e50, hi, rfl, hw, hwb, hst, t⟩
  simp (disch := omega) only [VW, VY, VZ, VA, VB, VC, VE, TY, ↓reduceIte, Nat.reduceEqDiff, Nat.reduceAdd, Nat.reduceMul, Nat.reduceSub, Nat.reduceLeDiff, List.length_cons, List.length_nil, List.length_append, List.append_assoc, List.take_succ_cons, List.take_zero, List.drop_succ_cons, List.drop_zero, List.set_cons_zero, List.set_cons_succ, true_or, or_true, and_self, Bool.false_eq_true, Nat.le_refl, Option.bind_some, Option.map_some, Option.getD_some, Option.isSome_some, List.map_cons, List.map_nil, List.cons_append, List.nil_append, List.append_nil, List.getElem?_cons_zero, List.getElem?_cons_succ, eq_self, Int.reduceLT, Int.reduceLE, Int.reduceNeg, Int.reduceEq, e49, e50]
  by_cases hlt : i < ls.length
  · have q1 : (i : Int) < (ls.length : Int) := by omega
    obtain ⟨x, hx⟩ := get_some hlt
    have hxx := hxs x (List.mem_of_getElem? hx)
    have g := (row_str (hcut.mono t.ext) (show (ls.map bL)[i]? = some (bL x) by rw [List.getElem?_map, hx]; rfl)).1
    have hstep := foldSM_step (st := st0) hx
    rw [hw] at hstep
    have zx : (bL x).size = x.length := bL_size x
    simp (disch := omega) only [VW, VY, VZ, VA, VB, VC, VE, TY, ↓reduceIte, Nat.reduceEqDiff, Nat.reduceAdd, Nat.reduceMul, Nat.reduceSub, Nat.reduceLeDiff, List.length_cons, List.length_nil, List.length_append, List.append_assoc, List.take_succ_cons, List.take_zero, List.drop_succ_cons, List.drop_zero, List.set_cons_zero, List.set_cons_succ, true_or, or_true, and_self, Bool.false_eq_true, Nat.le_refl, Option.bind_some, Option.map_some, Option.getD_some, Option.isSome_some, List.map_cons, List.map_nil, List.cons_append, List.nil_append, List.append_nil, List.getElem?_cons_zero, List.getElem?_cons_succ, eq_self, Int.reduceLT, Int.reduceLE, Int.reduceNeg, Int.reduceEq, e48, e50, q1, rix2, g]
    rw [← c32]
    refine .inl ⟨by kernel_rfl, ?_⟩; refine l1Split_c (s := bL x) (by omega) fun v5 h2 E2 r2 => ?_
    rw [c32]
    have hbx : (bL x).data.toList = x := rfl
    rw [hbx] at r2
    cases hY : splitL 32 x with
    | nil => exact absurd hY (splitL_ne _ _)
    | cons y0 ys =>
    have hnm : nameS x = y0 := by unfold nameS; rw [hY]; rfl
    rw [hY] at r2
    have hy0 := splitL_len 32 x y0 (by rw [hY]; simp)
    have g2 := (row_str r2 (show ((y0 :: ys).map bL)[0]? = some (bL y0) by rfl)).1
    rw [Nat.add_zero] at g2
    have zy : (bL y0).size = y0.length := bL_size y0
    have hY1 : ((y0 :: ys).map bL).length = ys.length + 1 := by simp
    have rix5 := r2.isRow.ix Tryz.prog
    rw [hY1] at rix5
    have q5 : (0 : Int) < ((ys.length + 1 : Nat) : Int) := by omega
    have t := t.mono E2
    by_cases c4 : (x.length : Int) < (y0.length : Int) + 2
    · rw [stepS_short (by rw [hnm]; omega)] at hstep
      rw [foldSM_stop hstep] at hQ
      have uu := u.add t
      simp (disch := omega) only [VW, VY, VZ, VA, VB, VC, VE, TY, ↓reduceIte, Nat.reduceEqDiff, Nat.reduceAdd, Nat.reduceMul, Nat.reduceSub, Nat.reduceLeDiff, List.length_cons, List.length_nil, List.length_append, List.append_assoc, List.take_succ_cons, List.take_zero, List.drop_succ_cons, List.drop_zero, List.set_cons_zero, List.set_cons_succ, true_or, or_true, and_self, Bool.false_eq_true, Nat.le_refl, Option.bind_some, Option.map_some, Option.getD_some, Option.isSome_some, List.map_cons, List.map_nil, List.cons_append, List.nil_append, List.append_nil, List.getElem?_cons_zero, List.getElem?_cons_succ, eq_self, Int.reduceLT, Int.reduceLE, Int.reduceNeg, Int.reduceEq, rix5, q5, g2, zx, zy, wrap_in, c4, e4]
      refine sep_store (uu.pull 5 rfl) (by simp) fun h9 uu => ?_
      have uu := uu.as (ds := [.slice none 0 0, .slice none 0 0, .slice none 0 0, .slice none 0 0, .int .i64 0]) (by simp [t_put])
      have gz := uu.rdAll (n := 5) rfl
      simp (disch := omega) only [VW, VY, VZ, VA, VB, VC, VE, TY, ↓reduceIte, Nat.reduceEqDiff, Nat.reduceAdd, Nat.reduceMul, Nat.reduceSub, Nat.reduceLeDiff, List.length_cons, List.length_nil, List.length_append, List.append_assoc, List.take_succ_cons, List.take_zero, List.drop_succ_cons, List.drop_zero, List.set_cons_zero, List.set_cons_succ, true_or, or_true, and_self, Bool.false_eq_true, Nat.le_refl, Option.bind_some, Option.map_some, Option.getD_some, Option.isSome_some, List.map_cons, List.map_nil, List.cons_append, List.nil_append, List.append_nil, List.getElem?_cons_zero, List.getElem?_cons_succ, eq_self, Int.reduceLT, Int.reduceLE, Int.reduceNeg, Int.reduceEq, gz, e4]
      exact hQ _ _ (wk_zero uu).head
    have hlong : (nameS x).length + 2 ≤ x.length := by rw [hnm]; omega
    have l1 : (0 : Int) ≤ (y0.length : Int) + 1 := by omega
    have l2 : (y0.length : Int) + 1 ≤ (x.length : Int) := by omega
    have l3 : ((y0.length : Int) + 1).toNat = y0.length + 1 := by omega
    have hxd : ((bL x).extract (y0.length + 1) x.length).data.toList = x.drop ((nameS x).length + 1) := by rw [extract_list, hnm]; simp [bL]
    have hxz : ((bL x).extract (y0.length + 1) x.length).size ≤ 1000000 := by rw [ByteArray.size_extract]; omega
    simp (disch := omega) only [VW, VY, VZ, VA, VB, VC, VE, TY, ↓reduceIte, Nat.reduceEqDiff, Nat.reduceAdd, Nat.reduceMul, Nat.reduceSub, Nat.reduceLeDiff, List.length_cons, List.length_nil, List.length_append, List.append_assoc, List.take_succ_cons, List.take_zero, List.drop_succ_cons, List.drop_zero, List.set_cons_zero, List.set_cons_succ, true_or, or_true, and_self, Bool.false_eq_true, Nat.le_refl, Option.bind_some, Option.map_some, Option.getD_some, Option.isSome_some, List.map_cons, List.map_nil, List.cons_append, List.nil_append, List.append_nil, List.getElem?_cons_zero, List.getElem?_cons_succ, eq_self, Int.reduceLT, Int.reduceLE, Int.reduceNeg, Int.reduceEq, rix5, q5, g2, zx, zy, wrap_in, c4, l1, l2, l3]
    refine .inl ⟨by kernel_rfl, ?_⟩; refine bxParse_c hxz fun cs h3 s3 => ?_
    rw [hxd] at s3 ⊢
    obtain ⟨w1, w2, rfl, f1, r1, r2⟩ := here_Bx s3.here
    have t := t.add s3
    have t := t.newBlk [.int .i64 ((boxI (x.drop ((nameS x).length + 1))).getD bxZ).k, w1, w2] 38 true
    have gb := t.rdAll (n := 3) rfl
    have gw := (t.pull 2 rfl).rdAll (n := 5) rfl
    simp (disch := omega) only [VW, VY, VZ, VA, VB, VC, VE, TY, ↓reduceIte, Nat.reduceEqDiff, Nat.reduceAdd, Nat.reduceMul, Nat.reduceSub, Nat.reduceLeDiff, List.length_cons, List.length_nil, List.length_append, List.append_assoc, List.take_succ_cons, List.take_zero, List.drop_succ_cons, List.drop_zero, List.set_cons_zero, List.set_cons_succ, true_or, or_true, and_self, Bool.false_eq_true, Nat.le_refl, Option.bind_some, Option.map_some, Option.getD_some, Option.isSome_some, List.map_cons, List.map_nil, List.cons_append, List.nil_append, List.append_nil, List.getElem?_cons_zero, List.getElem?_cons_succ, eq_self, Int.reduceLT, Int.reduceLE, Int.reduceNeg, Int.reduceEq, e7, gb, gw]
    have tt := ((((t.pull 1 rfl).pull 6 rfl).pull 6 rfl).pull 6 rfl).pull 6 rfl
    have hwb2 : WB w 1000 := ⟨by have := hwb.1; omega, by have := hwb.2.1; omega, by have := hwb.2.2.1; omega, by have := hwb.2.2.2; omega⟩
    refine .inl ⟨by kernel_rfl, ?_⟩; refine cpPut_c (nm := y0) hwb2 tt (fun hk h4 E4 => ?_) (fun k hk x0 x1 x2 x3 h4 t => ?_)
    · rw [stepS_none1 hlong (by rw [hnm]; exact hk)] at hstep
      rw [foldSM_stop hstep] at hQ
      have t := (t.mono E4).newBlk [.slice none 0 0, .slice none 0 0, .slice none 0 0, .slice none 0 0, .int .i64 0] 24 true
      have uu := u.add t
      cases hb : boxI (x.drop ((nameS x).length + 1)) with
      | none =>
        simp only [Option.isSome_none]
        simp (disch := omega) only [VW, VY, VZ, VA, VB, VC, VE, TY, ↓reduceIte, Nat.reduceEqDiff, Nat.reduceAdd, Nat.reduceMul, Nat.reduceSub, Nat.reduceLeDiff, List.length_cons, List.length_nil, List.length_append, List.append_assoc, List.take_succ_cons, List.take_zero, List.drop_succ_cons, List.drop_zero, List.set_cons_zero, List.set_cons_succ, true_or, or_true, and_self, Bool.false_eq_true, Nat.le_refl, Option.bind_some, Option.map_some, Option.getD_some, Option.isSome_some, List.map_cons, List.map_nil, List.cons_append, List.nil_append, List.append_nil, List.getElem?_cons_zero, List.getElem?_cons_succ, eq_self, Int.reduceLT, Int.reduceLE, Int.reduceNeg, Int.reduceEq, e4]
        refine sep_store (uu.pull 8 rfl) (by simp) fun h9 uu => ?_
        have uu := uu.as (ds := [.slice none 0 0, .slice none 0 0, .slice none 0 0, .slice none 0 0, .int .i64 0]) (by simp [t_put])
        have gz := uu.rdAll (n := 5) rfl
        simp (disch := omega) only [VW, VY, VZ, VA, VB, VC, VE, TY, ↓reduceIte, Nat.reduceEqDiff, Nat.reduceAdd, Nat.reduceMul, Nat.reduceSub, Nat.reduceLeDiff, List.length_cons, List.length_nil, List.length_append, List.append_assoc, List.take_succ_cons, List.take_zero, List.drop_succ_cons, List.drop_zero, List.set_cons_zero, List.set_cons_succ, true_or, or_true, and_self, Bool.false_eq_true, Nat.le_refl, Option.bind_some, Option.map_some, Option.getD_some, Option.isSome_some, List.map_cons, List.map_nil, List.cons_append, List.nil_append, List.append_nil, List.getElem?_cons_zero, List.getElem?_cons_succ, eq_self, Int.reduceLT, Int.reduceLE, Int.reduceNeg, Int.reduceEq, gz, e4]
        exact hQ _ _ (wk_zero uu).head
      | some b =>
        simp only [Option.isSome_some]
        simp (disch := omega) only [VW, VY, VZ, VA, VB, VC, VE, TY, ↓reduceIte, Nat.reduceEqDiff, Nat.reduceAdd, Nat.reduceMul, Nat.reduceSub, Nat.reduceLeDiff, List.length_cons, List.length_nil, List.length_append, List.append_assoc, List.take_succ_cons, List.take_zero, List.drop_succ_cons, List.drop_zero, List.set_cons_zero, List.set_cons_succ, true_or, or_true, and_self, Bool.false_eq_true, Nat.le_refl, Option.bind_some, Option.map_some, Option.getD_some, Option.isSome_some, List.map_cons, List.map_nil, List.cons_append, List.nil_append, List.append_nil, List.getElem?_cons_zero, List.getElem?_cons_succ, eq_self, Int.reduceLT, Int.reduceLE, Int.reduceNeg, Int.reduceEq, e4]
        refine sep_store (uu.pull 8 rfl) (by simp) fun h9 uu => ?_
        have uu := uu.as (ds := [.slice none 0 0, .slice none 0 0, .slice none 0 0, .slice none 0 0, .int .i64 0]) (by simp [t_put])
        have gz := uu.rdAll (n := 5) rfl
        simp (disch := omega) only [VW, VY, VZ, VA, VB, VC, VE, TY, ↓reduceIte, Nat.reduceEqDiff, Nat.reduceAdd, Nat.reduceMul, Nat.reduceSub, Nat.reduceLeDiff, List.length_cons, List.length_nil, List.length_append, List.append_assoc, List.take_succ_cons, List.take_zero, List.drop_succ_cons, List.drop_zero, List.set_cons_zero, List.set_cons_succ, true_or, or_true, and_self, Bool.false_eq_true, Nat.le_refl, Option.bind_some, Option.map_some, Option.getD_some, Option.isSome_some, List.map_cons, List.map_nil, List.cons_append, List.nil_append, List.append_nil, List.getElem?_cons_zero, List.getElem?_cons_succ, eq_self, Int.reduceLT, Int.reduceLE, Int.reduceNeg, Int.reduceEq, gz, e4]
        exact hQ _ _ (wk_zero uu).head
    · have t := t.newBlk [x0, x1, x2, x3, .int .i64 w.steps] 24 true
      have gn := t.rdAll (n := 5) rfl
      cases hb : boxI (x.drop ((nameS x).length + 1)) with
      | none =>
        rw [stepS_none2 hlong hb] at hstep
        rw [foldSM_stop hstep] at hQ
        have uu := u.add t
        simp only [Option.isSome_none]
        simp (disch := omega) only [VW, VY, VZ, VA, VB, VC, VE, TY, ↓reduceIte, Nat.reduceEqDiff, Nat.reduceAdd, Nat.reduceMul, Nat.reduceSub, Nat.reduceLeDiff, List.length_cons, List.length_nil, List.length_append, List.append_assoc, List.take_succ_cons, List.take_zero, List.drop_succ_cons, List.drop_zero, List.set_cons_zero, List.set_cons_succ, true_or, or_true, and_self, Bool.false_eq_true, Nat.le_refl, Option.bind_some, Option.map_some, Option.getD_some, Option.isSome_some, List.map_cons, List.map_nil, List.cons_append, List.nil_append, List.append_nil, List.getElem?_cons_zero, List.getElem?_cons_succ, eq_self, Int.reduceLT, Int.reduceLE, Int.reduceNeg, Int.reduceEq, e4]
        refine sep_store (uu.pull 7 rfl) (by simp) fun h9 uu => ?_
        have uu := uu.as (ds := [.slice none 0 0, .slice none 0 0, .slice none 0 0, .slice none 0 0, .int .i64 0]) (by simp [t_put])
        have gz := uu.rdAll (n := 5) rfl
        simp (disch := omega) only [VW, VY, VZ, VA, VB, VC, VE, TY, ↓reduceIte, Nat.reduceEqDiff, Nat.reduceAdd, Nat.reduceMul, Nat.reduceSub, Nat.reduceLeDiff, List.length_cons, List.length_nil, List.length_append, List.append_assoc, List.take_succ_cons, List.take_zero, List.drop_succ_cons, List.drop_zero, List.set_cons_zero, List.set_cons_succ, true_or, or_true, and_self, Bool.false_eq_true, Nat.le_refl, Option.bind_some, Option.map_some, Option.getD_some, Option.isSome_some, List.map_cons, List.map_nil, List.cons_append, List.nil_append, List.append_nil, List.getElem?_cons_zero, List.getElem?_cons_succ, eq_self, Int.reduceLT, Int.reduceLE, Int.reduceNeg, Int.reduceEq, gz, e4]
        exact hQ _ _ (wk_zero uu).head
      | some b =>
        rw [stepS_some hlong (by rw [hnm]; exact hk) hb] at hstep
        rw [hb] at t
        simp only [Option.isSome_some, Option.getD_some] at t ⊢
        simp (disch := omega) only [VW, VY, VZ, VA, VB, VC, VE, TY, ↓reduceIte, Nat.reduceEqDiff, Nat.reduceAdd, Nat.reduceMul, Nat.reduceSub, Nat.reduceLeDiff, List.length_cons, List.length_nil, List.length_append, List.append_assoc, List.take_succ_cons, List.take_zero, List.drop_succ_cons, List.drop_zero, List.set_cons_zero, List.set_cons_succ, true_or, or_true, and_self, Bool.false_eq_true, Nat.le_refl, Option.bind_some, Option.map_some, Option.getD_some, Option.isSome_some, List.map_cons, List.map_nil, List.cons_append, List.nil_append, List.append_nil, List.getElem?_cons_zero, List.getElem?_cons_succ, eq_self, Int.reduceLT, Int.reduceLE, Int.reduceNeg, Int.reduceEq, gn, e7]
        refine sep_store (t.pull 6 rfl) (by simp) fun h6 t => ?_
        have t := t.as (ds := [x0, x1, x2, x3, .int .i64 w.steps]) (by simp [t_put])
        simp (disch := omega) only [VW, VY, VZ, VA, VB, VC, VE, TY, ↓reduceIte, Nat.reduceEqDiff, Nat.reduceAdd, Nat.reduceMul, Nat.reduceSub, Nat.reduceLeDiff, List.length_cons, List.length_nil, List.length_append, List.append_assoc, List.take_succ_cons, List.take_zero, List.drop_succ_cons, List.drop_zero, List.set_cons_zero, List.set_cons_succ, true_or, or_true, and_self, Bool.false_eq_true, Nat.le_refl, Option.bind_some, Option.map_some, Option.getD_some, Option.isSome_some, List.map_cons, List.map_nil, List.cons_append, List.nil_append, List.append_nil, List.getElem?_cons_zero, List.getElem?_cons_succ, eq_self, Int.reduceLT, Int.reduceLE, Int.reduceNeg, Int.reduceEq, e0, e1, e4, e7, e48, e49, e50, wrap_in]
        refine ⟨_, by omega, i + 1, x0, x1, x2, x3, putW w k b, by simp, by omega, rfl, hstep, putW_WB hwb, by rw [putW_steps]; exact hst, ?_⟩
        rw [putW_steps]
        exact Sep.keep (L := [_, _, _, _, _]) (M := [_]) t.swap.tail
  · obtain rfl : i = ls.length := by omega
    have q1 : ¬ (ls.length : Int) < (ls.length : Int) := by omega
    rw [List.take_length] at hw
    rw [hw] at hQ
    have hx : ∀ H, Ext h' H → Here H w [v0, v1, v2, v3, .int .i64 w.steps] := fun H E => mk_Wk ((t.pull 1 rfl).row.mono E) ((t.pull 2 rfl).row.mono E) ((t.pull 3 rfl).row.mono E) ((t.pull 4 rfl).row.mono E) hst
    have pl0 := (t.pull 1 rfl).row.isRow.plain
    have pl1 := (t.pull 2 rfl).row.isRow.plain
    have pl2 := (t.pull 3 rfl).row.isRow.plain
    have pl3 := (t.pull 4 rfl).row.isRow.plain
    have ga := t.rdAll (n := 5) rfl
    simp (disch := omega) only [VW, VY, VZ, VA, VB, VC, VE, TY, ↓reduceIte, Nat.reduceEqDiff, Nat.reduceAdd, Nat.reduceMul, Nat.reduceSub, Nat.reduceLeDiff, List.length_cons, List.length_nil, List.length_append, List.append_assoc, List.take_succ_cons, List.take_zero, List.drop_succ_cons, List.drop_zero, List.set_cons_zero, List.set_cons_succ, true_or, or_true, and_self, Bool.false_eq_true, Nat.le_refl, Option.bind_some, Option.map_some, Option.getD_some, Option.isSome_some, List.map_cons, List.map_nil, List.cons_append, List.nil_append, List.append_nil, List.getElem?_cons_zero, List.getElem?_cons_succ, eq_self, Int.reduceLT, Int.reduceLE, Int.reduceNeg, Int.reduceEq, q1, e1, e7, ga]
    refine .inl ⟨by kernel_rfl, ?_⟩; refine brGood_c (hx _ (.refl _)) fun h2 E2 => ?_
    have t2 := t.mono E2
    have ga := t2.rdAll (n := 5) rfl
    cases hm : workM w t_ with
    | false =>
      have hf : finM s.data.toList t_ (some w) = none := by unfold finM; simp [hm]
      rw [hf] at hQ
      have uu := u.add t2
      simp (disch := omega) only [VW, VY, VZ, VA, VB, VC, VE, TY, ↓reduceIte, Nat.reduceEqDiff, Nat.reduceAdd, Nat.reduceMul, Nat.reduceSub, Nat.reduceLeDiff, List.length_cons, List.length_nil, List.length_append, List.append_assoc, List.take_succ_cons, List.take_zero, List.drop_succ_cons, List.drop_zero, List.set_cons_zero, List.set_cons_succ, true_or, or_true, and_self, Bool.false_eq_true, Nat.le_refl, Option.bind_some, Option.map_some, Option.getD_some, Option.isSome_some, List.map_cons, List.map_nil, List.cons_append, List.nil_append, List.append_nil, List.getElem?_cons_zero, List.getElem?_cons_succ, eq_self, Int.reduceLT, Int.reduceLE, Int.reduceNeg, Int.reduceEq, e4]
      refine sep_store (uu.pull 5 rfl) (by simp) fun h9 uu => ?_
      have uu := uu.as (ds := [.slice none 0 0, .slice none 0 0, .slice none 0 0, .slice none 0 0, .int .i64 0]) (by simp [t_put])
      have gz := uu.rdAll (n := 5) rfl
      simp (disch := omega) only [VW, VY, VZ, VA, VB, VC, VE, TY, ↓reduceIte, Nat.reduceEqDiff, Nat.reduceAdd, Nat.reduceMul, Nat.reduceSub, Nat.reduceLeDiff, List.length_cons, List.length_nil, List.length_append, List.append_assoc, List.take_succ_cons, List.take_zero, List.drop_succ_cons, List.drop_zero, List.set_cons_zero, List.set_cons_succ, true_or, or_true, and_self, Bool.false_eq_true, Nat.le_refl, Option.bind_some, Option.map_some, Option.getD_some, Option.isSome_some, List.map_cons, List.map_nil, List.cons_append, List.nil_append, List.append_nil, List.getElem?_cons_zero, List.getElem?_cons_succ, eq_self, Int.reduceLT, Int.reduceLE, Int.reduceNeg, Int.reduceEq, gz, e4]
      exact hQ _ _ (wk_zero uu).head
    | true =>
      simp (disch := omega) only [VW, VY, VZ, VA, VB, VC, VE, TY, ↓reduceIte, Nat.reduceEqDiff, Nat.reduceAdd, Nat.reduceMul, Nat.reduceSub, Nat.reduceLeDiff, List.length_cons, List.length_nil, List.length_append, List.append_assoc, List.take_succ_cons, List.take_zero, List.drop_succ_cons, List.drop_zero, List.set_cons_zero, List.set_cons_succ, true_or, or_true, and_self, Bool.false_eq_true, Nat.le_refl, Option.bind_some, Option.map_some, Option.getD_some, Option.isSome_some, List.map_cons, List.map_nil, List.cons_append, List.nil_append, List.append_nil, List.getElem?_cons_zero, List.getElem?_cons_succ, eq_self, Int.reduceLT, Int.reduceLE, Int.reduceNeg, Int.reduceEq, e7, ga]
      refine .inl ⟨by kernel_rfl, ?_⟩; refine cpText_c (hx _ E2) hm fun h3 E3 => ?_
      have t3 := t2.mono E3
      have uu := u.add t3
      by_cases k : bL (workL w) = s
      · have hf : finM s.data.toList t_ (some w) = some w := by unfold finM; simp [hm, bL_eq.1 k]
        rw [hf] at hQ
        have ga := uu.rdAll (n := 5) rfl
        simp (disch := omega) only [VW, VY, VZ, VA, VB, VC, VE, TY, ↓reduceIte, Nat.reduceEqDiff, Nat.reduceAdd, Nat.reduceMul, Nat.reduceSub, Nat.reduceLeDiff, List.length_cons, List.length_nil, List.length_append, List.append_assoc, List.take_succ_cons, List.take_zero, List.drop_succ_cons, List.drop_zero, List.set_cons_zero, List.set_cons_succ, true_or, or_true, and_self, Bool.false_eq_true, Nat.le_refl, Option.bind_some, Option.map_some, Option.getD_some, Option.isSome_some, List.map_cons, List.map_nil, List.cons_append, List.nil_append, List.append_nil, List.getElem?_cons_zero, List.getElem?_cons_succ, eq_self, Int.reduceLT, Int.reduceLE, Int.reduceNeg, Int.reduceEq, e0, k, e4, e7, ga]
        refine sep_store (uu.pull 5 rfl) (by simp) fun h9 uu => ?_
        have uu := uu.as (ds := [v0, v1, v2, v3, .int .i64 w.steps]) (by simp [t_put])
        have gz := uu.rdAll (n := 5) rfl
        simp (disch := omega) only [VW, VY, VZ, VA, VB, VC, VE, TY, ↓reduceIte, Nat.reduceEqDiff, Nat.reduceAdd, Nat.reduceMul, Nat.reduceSub, Nat.reduceLeDiff, List.length_cons, List.length_nil, List.length_append, List.append_assoc, List.take_succ_cons, List.take_zero, List.drop_succ_cons, List.drop_zero, List.set_cons_zero, List.set_cons_succ, true_or, or_true, and_self, Bool.false_eq_true, Nat.le_refl, Option.bind_some, Option.map_some, Option.getD_some, Option.isSome_some, List.map_cons, List.map_nil, List.cons_append, List.nil_append, List.append_nil, List.getElem?_cons_zero, List.getElem?_cons_succ, eq_self, Int.reduceLT, Int.reduceLE, Int.reduceNeg, Int.reduceEq, gz, e4]
        exact hQ _ _ (wk_join hst uu.tail.tail).head
      · have hf : finM s.data.toList t_ (some w) = none := if_neg fun c => k (bL_eq.2 c.2)
        rw [hf] at hQ
        simp (disch := omega) only [VW, VY, VZ, VA, VB, VC, VE, TY, ↓reduceIte, Nat.reduceEqDiff, Nat.reduceAdd, Nat.reduceMul, Nat.reduceSub, Nat.reduceLeDiff, List.length_cons, List.length_nil, List.length_append, List.append_assoc, List.take_succ_cons, List.take_zero, List.drop_succ_cons, List.drop_zero, List.set_cons_zero, List.set_cons_succ, true_or, or_true, and_self, Bool.false_eq_true, Nat.le_refl, Option.bind_some, Option.map_some, Option.getD_some, Option.isSome_some, List.map_cons, List.map_nil, List.cons_append, List.nil_append, List.append_nil, List.getElem?_cons_zero, List.getElem?_cons_succ, eq_self, Int.reduceLT, Int.reduceLE, Int.reduceNeg, Int.reduceEq, e0, k, e4]
        refine sep_store (uu.pull 5 rfl) (by simp) fun h9 uu => ?_
        have uu := uu.as (ds := [.slice none 0 0, .slice none 0 0, .slice none 0 0, .slice none 0 0, .int .i64 0]) (by simp [t_put])
        have gz := uu.rdAll (n := 5) rfl
        simp (disch := omega) only [VW, VY, VZ, VA, VB, VC, VE, TY, ↓reduceIte, Nat.reduceEqDiff, Nat.reduceAdd, Nat.reduceMul, Nat.reduceSub, Nat.reduceLeDiff, List.length_cons, List.length_nil, List.length_append, List.append_assoc, List.take_succ_cons, List.take_zero, List.drop_succ_cons, List.drop_zero, List.set_cons_zero, List.set_cons_succ, true_or, or_true, and_self, Bool.false_eq_true, Nat.le_refl, Option.bind_some, Option.map_some, Option.getD_some, Option.isSome_some, List.map_cons, List.map_nil, List.cons_append, List.nil_append, List.append_nil, List.getElem?_cons_zero, List.getElem?_cons_succ, eq_self, Int.reduceLT, Int.reduceLE, Int.reduceNeg, Int.reduceEq, gz, e4]
        exact hQ _ _ (wk_zero uu).head
end Go.Proofs

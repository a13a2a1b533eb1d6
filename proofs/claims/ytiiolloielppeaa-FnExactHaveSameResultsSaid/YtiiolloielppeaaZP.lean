/- Contracts of functions, facts of types, or the plain law behind one statement (own work): ZP. Conditions: those told in each theorem. -/
import Derived.Test.YtiiolloielppeaaZO
set_option linter.all false
set_option linter.unusedSimpArgs false
set_option linter.unusedVariables false
set_option maxRecDepth 4000
namespace Go.Proofs
open Go Go.V
theorem Sep.inNil {a h : Heap} {L : List Asr} (s : Sep a h L) : Sep a h (inA [] :: L) := by
  obtain ⟨e0, fp, s, hd, hn⟩ := s
  exact ⟨e0, fp, ⟨[], fp, rfl, ⟨[], rfl, rfl⟩, s⟩, hd, hn⟩
theorem wkSort_c {s : Nat} {l : List Bx} {v : Value} {h : Heap} {Q : Value → Heap → Prop} (r : Row h l v) (hg : ∀ x ∈ l, Gd s x) (hl : l.length ≤ 40)
    (hQ : ∀ w h', Sep h h' [ownA 42 (sortM l) w] → Q w h') : CallsV Try.prog 68 [v] h Q := by
  refine CallsV.start Try.func68 rfl (by rw [Try.results68]) (by kernel_rfl) (by rw [Try.ntmps68]; simp) ?_
  simp (disch := omega) only [VW, VY, VZ, VA, VB, VC, VE, TY, ↓reduceIte, Nat.reduceEqDiff, Nat.reduceAdd, Nat.reduceMul, Nat.reduceSub, Nat.reduceLeDiff, List.length_cons, List.length_nil, List.length_append, List.append_assoc, List.take_succ_cons, List.take_zero, List.drop_succ_cons, List.drop_zero, List.set_cons_zero, List.set_cons_succ, true_or, or_true, and_self, Bool.false_eq_true, Nat.le_refl, Option.bind_some, Option.map_some, Option.getD_some, Option.isSome_some, List.map_cons, List.map_nil, List.cons_append, List.nil_append, List.append_nil, List.getElem?_cons_zero, List.getElem?_cons_succ, eq_self, Int.reduceLT, Int.reduceLE, Int.reduceNeg, Int.reduceEq, r.isRow.len]
  refine loop_rule (fun n e h' => ∃ (i : Nat) (vo : Value) (z : List El), e 3 = vo ∧ e 7 = v ∧ e 8 = .int .i64 (l.length : Int) ∧ e 9 = .int .i64 (i : Int) ∧ i ≤ l.length ∧ n = l.length - i ∧ (bxs z).Perm (l.take i) ∧ z.Pairwise leP ∧ St h h' z vo []) ?_ l.length _ _
    ⟨0, .slice none 0 0, [], rfl, rfl, rfl, rfl, Nat.zero_le _, rfl, .nil, .nil, (Sep.inNil (Sep.nil (.refl h))).nilA _⟩
  rintro n e h1 ⟨i, vo, z, e3, e7, e8, e9, hi, rfl, pz, sz, st⟩
  have r1 := r.mono st.ext
  have hzl : z.length = i := by have := pz.length_eq; simp at this; omega
  have gz : ∀ p ∈ z, Gd s p.1 := fun p hp => hg p.1 (List.mem_of_mem_take (pz.mem_iff.1 (List.mem_map.2 ⟨p, hp, rfl⟩)))
  simp (disch := omega) only [VW, VY, VZ, VA, VB, VC, VE, TY, ↓reduceIte, Nat.reduceEqDiff, Nat.reduceAdd, Nat.reduceMul, Nat.reduceSub, Nat.reduceLeDiff, List.length_cons, List.length_nil, List.length_append, List.append_assoc, List.take_succ_cons, List.take_zero, List.drop_succ_cons, List.drop_zero, List.set_cons_zero, List.set_cons_succ, true_or, or_true, and_self, Bool.false_eq_true, Nat.le_refl, Option.bind_some, Option.map_some, Option.getD_some, Option.isSome_some, List.map_cons, List.map_nil, List.cons_append, List.nil_append, List.append_nil, List.getElem?_cons_zero, List.getElem?_cons_succ, eq_self, Int.reduceLT, Int.reduceLE, Int.reduceNeg, Int.reduceEq, e8, e9]
  by_cases hlt : i < l.length
  · obtain ⟨x, hx⟩ := get_some hlt
    have q1 : (i : Int) < (l.length : Int) := by omega
    have gx := hg x (List.mem_of_getElem? hx)
    obtain ⟨xs, x3h, x4h⟩ := r.at hx
    rw [Bx.sz] at x3h
    have x3 := st.ext.keepA x3h
    have x4 := x4h.mono st.ext
    obtain ⟨wa1, wa2, rfl, f1, ra1, ra2⟩ := here_Bx x4
    obtain ⟨_, lx, lx3, ex, _⟩ := box_k gx.1
    simp (disch := omega) only [VW, VY, VZ, VA, VB, VC, VE, TY, ↓reduceIte, Nat.reduceEqDiff, Nat.reduceAdd, Nat.reduceMul, Nat.reduceSub, Nat.reduceLeDiff, List.length_cons, List.length_nil, List.length_append, List.append_assoc, List.take_succ_cons, List.take_zero, List.drop_succ_cons, List.drop_zero, List.set_cons_zero, List.set_cons_succ, true_or, or_true, and_self, Bool.false_eq_true, Nat.le_refl, Option.bind_some, Option.map_some, Option.getD_some, Option.isSome_some, List.map_cons, List.map_nil, List.cons_append, List.nil_append, List.append_nil, List.getElem?_cons_zero, List.getElem?_cons_succ, eq_self, Int.reduceLT, Int.reduceLE, Int.reduceNeg, Int.reduceEq, e3, e7, e9, q1, r1.isRow.ix, x3, st.len.len]
    have u := Sep.newBlk st [.int .i64 x.k, wa1, wa2] 42 true
    have st : St h _ z vo [blkA h1.length [.int .i64 x.k, wa1, wa2] 42] := ((u.pull 1 rfl).pull 2 rfl).swap
    have E1 := Ext.one h1 (some ⟨[.int .i64 x.k, wa1, wa2], 42, false, true⟩)
    have x4 := x4.mono E1
    clear u
    generalize h1 ++ [some ⟨[.int .i64 x.k, wa1, wa2], 42, false, true⟩] = H5 at *
    refine loop_rule (fun n e h' => ∃ (k : Nat), e 3 = vo ∧ e 5 = .pointer (some ⟨h1.length, 0, none⟩) ∧ e 6 = .int .i64 (k : Int) ∧ e 7 = v ∧ e 8 = .int .i64 (l.length : Int) ∧ e 9 = .int .i64 (i : Int) ∧ k ≤ z.length ∧ k = n ∧ (∀ p ∈ z.drop k, leB x p.1) ∧ Ext H5 h') ?_ z.length _ _
      ⟨z.length, e3, rfl, rfl, e7, e8, e9, Nat.le_refl _, rfl, by simp, .refl _⟩
    clear e3 e7 e8 e9
    rintro n e h6 ⟨k, e3, e5, e6, e7, e8, e9, hk, rfl, hd, E6⟩
    have st6 : St h h6 z vo [blkA h1.length [.int .i64 x.k, wa1, wa2] 42] := Sep.mono st E6
    have gb := (Sep.pull st6 2 rfl).rdAll (n := 3) rfl
    have ix := st6.len.ix Try.prog
    rcases Nat.eq_zero_or_pos k with rfl | hk0
    · have c0 : ¬ (0 : Int) < ((0 : Nat) : Int) := by decide
      simp (disch := omega) only [VW, VY, VZ, VA, VB, VC, VE, TY, ↓reduceIte, Nat.reduceEqDiff, Nat.reduceAdd, Nat.reduceMul, Nat.reduceSub, Nat.reduceLeDiff, List.length_cons, List.length_nil, List.length_append, List.append_assoc, List.take_succ_cons, List.take_zero, List.drop_succ_cons, List.drop_zero, List.set_cons_zero, List.set_cons_succ, true_or, or_true, and_self, Bool.false_eq_true, Nat.le_refl, Option.bind_some, Option.map_some, Option.getD_some, Option.isSome_some, List.map_cons, List.map_nil, List.cons_append, List.nil_append, List.append_nil, List.getElem?_cons_zero, List.getElem?_cons_succ, eq_self, Int.reduceLT, Int.reduceLE, Int.reduceNeg, Int.reduceEq, e6]
      refine draw_id (by kernel_rfl) ?_
      simp (disch := omega) only [VW, VY, VZ, VA, VB, VC, VE, TY, ↓reduceIte, Nat.reduceEqDiff, Nat.reduceAdd, Nat.reduceMul, Nat.reduceSub, Nat.reduceLeDiff, List.length_cons, List.length_nil, List.length_append, List.append_assoc, List.take_succ_cons, List.take_zero, List.drop_succ_cons, List.drop_zero, List.set_cons_zero, List.set_cons_succ, true_or, or_true, and_self, Bool.false_eq_true, Nat.le_refl, Option.bind_some, Option.map_some, Option.getD_some, Option.isSome_some, List.map_cons, List.map_nil, List.cons_append, List.nil_append, List.append_nil, List.getElem?_cons_zero, List.getElem?_cons_succ, eq_self, Int.reduceLT, Int.reduceLE, Int.reduceNeg, Int.reduceEq, e6, c0]
      obtain ⟨k, hk'⟩ : ∃ k : Nat, k = 0 := ⟨0, rfl⟩
      have e6 : e 6 = .int .i64 (k : Int) := by rw [hk']; exact e6
      have hd : ∀ p ∈ z.drop k, leB x p.1 := by rw [hk']; exact hd
      have hk : k ≤ z.length := by omega
      have hb2 : z.take k = [] ∨ ∃ S0 y, z.take k = S0 ++ [y] ∧ leB y.1 x := .inl (by rw [hk']; rfl)
      clear hk' c0
      have rz := Sep.row st6
      have isr := rz.isRow
      have rc1 := rz.cut (lo := 0) (m := k) (Nat.zero_le _) (by simpa using hk)
      have rc2 := rz.cut (lo := k) (m := z.length) hk (by simp)
      rw [List.drop_zero, ← List.map_take] at rc1
      rw [List.take_of_length_le (by simp), ← List.map_drop] at rc2
      have rc1 : Row h6 (raws (z.take k)) (cutV vo 3 0 k) := rc1
      have rc2 : Row h6 (raws (z.drop k)) (cutV vo 3 k z.length) := rc2
      have lr : (raws z).length = z.length := by simp
      rw [lr] at isr
      have cap := isr.cap
      have m1 : (0 : Int) ≤ (k : Int) := by omega
      have m2 : (k : Int) ≤ (rowC vo : Int) := by omega
      have m3 : (k : Int).toNat = k := rfl
      have m4 : (k : Int) ≤ (z.length : Int) := by omega
      have m5 : k ≤ rowC vo := by omega
      have m6 : z.length ≤ rowC vo := cap
      refine draw_ord [1, 2, 3, 5, 9, 10, 11, 0, 4, 6, 7, 8, 12, 13] (by kernel_rfl) (by simp only [List.filterMap_cons, List.filterMap_nil, List.getElem?_cons_zero, List.getElem?_cons_succ]; rfl) ?_
      simp (disch := omega) only [VW, VY, VZ, VA, VB, VC, VE, TY, ↓reduceIte, Nat.reduceEqDiff, Nat.reduceAdd, Nat.reduceMul, Nat.reduceSub, Nat.reduceLeDiff, List.length_cons, List.length_nil, List.length_append, List.append_assoc, List.take_succ_cons, List.take_zero, List.drop_succ_cons, List.drop_zero, List.set_cons_zero, List.set_cons_succ, true_or, or_true, and_self, Bool.false_eq_true, Nat.le_refl, Option.bind_some, Option.map_some, Option.getD_some, Option.isSome_some, List.map_cons, List.map_nil, List.cons_append, List.nil_append, List.append_nil, List.getElem?_cons_zero, List.getElem?_cons_succ, eq_self, Int.reduceLT, Int.reduceLE, Int.reduceNeg, Int.reduceEq, e3, e5, e6, isr.sl, m1, m2, m3, m4, m5, m6, gb]
      have u1 := Sep.empty (α := Raw3) st6 42 true
      have E7 := Ext.one h6 (some ⟨[], 42, false, true⟩)
      have gb1 := (u1.pull 3 rfl).rdAll (n := 3) rfl
      have lk : (z.take k).length = k := by rw [List.length_take]; omega
      have ld : (z.drop k).length = z.length - k := List.length_drop
      simp (disch := omega) only [VW, VY, VZ, VA, VB, VC, VE, TY, ↓reduceIte, Nat.reduceEqDiff, Nat.reduceAdd, Nat.reduceMul, Nat.reduceSub, Nat.reduceLeDiff, List.length_cons, List.length_nil, List.length_append, List.append_assoc, List.take_succ_cons, List.take_zero, List.drop_succ_cons, List.drop_zero, List.set_cons_zero, List.set_cons_succ, true_or, or_true, and_self, Bool.false_eq_true, Nat.le_refl, Option.bind_some, Option.map_some, Option.getD_some, Option.isSome_some, List.map_cons, List.map_nil, List.cons_append, List.nil_append, List.append_nil, List.getElem?_cons_zero, List.getElem?_cons_succ, eq_self, Int.reduceLT, Int.reduceLE, Int.reduceNeg, Int.reduceEq, gb1]
      refine sep_appendRow u1 (rc1.mono E7) te28 tk42 rfl (by decide) (by simp; omega) fun w1 h8 u2 => ?_
      have gb2 := (u2.pull 3 rfl).rdAll (n := 3) rfl
      simp (disch := omega) only [VW, VY, VZ, VA, VB, VC, VE, TY, ↓reduceIte, Nat.reduceEqDiff, Nat.reduceAdd, Nat.reduceMul, Nat.reduceSub, Nat.reduceLeDiff, List.length_cons, List.length_nil, List.length_append, List.append_assoc, List.take_succ_cons, List.take_zero, List.drop_succ_cons, List.drop_zero, List.set_cons_zero, List.set_cons_succ, true_or, or_true, and_self, Bool.false_eq_true, Nat.le_refl, Option.bind_some, Option.map_some, Option.getD_some, Option.isSome_some, List.map_cons, List.map_nil, List.cons_append, List.nil_append, List.append_nil, List.getElem?_cons_zero, List.getElem?_cons_succ, eq_self, Int.reduceLT, Int.reduceLE, Int.reduceNeg, Int.reduceEq, gb2]
      have hds : ∀ (ds : List Value) (h' : Heap), Here h' x ds → ds.length = 3 := fun ds h' hh => by rw [Here.len hh]; rfl
      refine .inl ⟨by kernel_rfl, ?_⟩; refine wkBox_c (x4h.mono u2.ext) ⟨by omega, by omega⟩ fun ds h9 s9 => ?_
      have hl3 : ds.length = 3 := hds _ _ s9.here
      obtain ⟨d0, d1, d2, rfl⟩ : ∃ d0 d1 d2, ds = [d0, d1, d2] := by
        match ds, hl3 with
        | [d0, d1, d2], _ => exact ⟨_, _, _, rfl⟩
      have u3 := u2.add s9
      have u3 : Sep h h9 [inA ((x, ⟨[d0, d1, d2], hl3⟩) :: z), ownA (α := Raw3) 42 ([] ++ raws (z.take k)) w1, ownA (α := Raw3) 42 (raws z) vo, blkA h1.length [.int .i64 x.k, wa1, wa2] 42] := Sep.inCons hl3 (u3.pull 3 rfl).swap
      have gb3 := (u3.pull 3 rfl).rdAll (n := 3) rfl
      have u4 := (Sep.rep0 (x := (⟨[d0, d1, d2], hl3⟩ : Raw3)) (cs := [d0, d1, d2]) (u3.pull 1 rfl) (raw_rep _)).swap
      have gb3' := ((u3.newBlk [d0, d1, d2] 42 true).pull 4 rfl).rdAll (n := 3) rfl
      simp (disch := omega) only [VW, VY, VZ, VA, VB, VC, VE, TY, ↓reduceIte, Nat.reduceEqDiff, Nat.reduceAdd, Nat.reduceMul, Nat.reduceSub, Nat.reduceLeDiff, List.length_cons, List.length_nil, List.length_append, List.append_assoc, List.take_succ_cons, List.take_zero, List.drop_succ_cons, List.drop_zero, List.set_cons_zero, List.set_cons_succ, true_or, or_true, and_self, Bool.false_eq_true, Nat.le_refl, Option.bind_some, Option.map_some, Option.getD_some, Option.isSome_some, List.map_cons, List.map_nil, List.cons_append, List.nil_append, List.append_nil, List.getElem?_cons_zero, List.getElem?_cons_succ, eq_self, Int.reduceLT, Int.reduceLE, Int.reduceNeg, Int.reduceEq, gb3, gb3']
      refine sep_append (y := (⟨[d0, d1, d2], hl3⟩ : Raw3)) u4 rfl rfl te28 tk42 rfl (by decide) (by simp; omega) fun w2 h10 u5 => ?_
      have gb5 := (u5.pull 3 rfl).rdAll (n := 3) rfl
      have rz5 := (u5.pull 2 rfl).row.cut (lo := k) (m := z.length) hk (by simp)
      rw [List.take_of_length_le (by simp), ← List.map_drop] at rz5
      have rz5 : Row h10 (raws (z.drop k)) (cutV vo 3 k z.length) := rz5
      simp (disch := omega) only [VW, VY, VZ, VA, VB, VC, VE, TY, ↓reduceIte, Nat.reduceEqDiff, Nat.reduceAdd, Nat.reduceMul, Nat.reduceSub, Nat.reduceLeDiff, List.length_cons, List.length_nil, List.length_append, List.append_assoc, List.take_succ_cons, List.take_zero, List.drop_succ_cons, List.drop_zero, List.set_cons_zero, List.set_cons_succ, true_or, or_true, and_self, Bool.false_eq_true, Nat.le_refl, Option.bind_some, Option.map_some, Option.getD_some, Option.isSome_some, List.map_cons, List.map_nil, List.cons_append, List.nil_append, List.append_nil, List.getElem?_cons_zero, List.getElem?_cons_succ, eq_self, Int.reduceLT, Int.reduceLE, Int.reduceNeg, Int.reduceEq, gb5]
      refine sep_appendRow u5 rz5 te28 tk42 rfl (by decide) (by simp; omega) fun w3 h11 u6 => ?_
      have gb6 := (u6.pull 3 rfl).rdAll (n := 3) rfl
      simp (disch := omega) only [VW, VY, VZ, VA, VB, VC, VE, TY, ↓reduceIte, Nat.reduceEqDiff, Nat.reduceAdd, Nat.reduceMul, Nat.reduceSub, Nat.reduceLeDiff, List.length_cons, List.length_nil, List.length_append, List.append_assoc, List.take_succ_cons, List.take_zero, List.drop_succ_cons, List.drop_zero, List.set_cons_zero, List.set_cons_succ, true_or, or_true, and_self, Bool.false_eq_true, Nat.le_refl, Option.bind_some, Option.map_some, Option.getD_some, Option.isSome_some, List.map_cons, List.map_nil, List.cons_append, List.nil_append, List.append_nil, List.getElem?_cons_zero, List.getElem?_cons_succ, eq_self, Int.reduceLT, Int.reduceLE, Int.reduceNeg, Int.reduceEq, gb6, e7, e8, e9, wrap_in]
      have hperm : ((x, (⟨[d0, d1, d2], hl3⟩ : Raw3)) :: z).Perm (z.take k ++ (x, ⟨[d0, d1, d2], hl3⟩) :: z.drop k) := by
        have := (List.perm_middle (a := (x, (⟨[d0, d1, d2], hl3⟩ : Raw3))) (l₁ := z.take k) (l₂ := z.drop k)).symm
        rwa [List.take_append_drop] at this
      have u7 : Sep h h11 (ownA (α := Raw3) 42 (raws (z.take k ++ (x, ⟨[d0, d1, d2], hl3⟩) :: z.drop k)) w3 :: inA ((x, ⟨[d0, d1, d2], hl3⟩) :: z) :: []) := by
        have := Sep.keep (L := [ownA (α := Raw3) 42 (([] ++ raws (z.take k)) ++ [⟨[d0, d1, d2], hl3⟩] ++ raws (z.drop k)) w3, inA ((x, ⟨[d0, d1, d2], hl3⟩) :: z)]) u6
        simpa using this
      refine ⟨_, by omega, i + 1, w3, z.take k ++ (x, ⟨[d0, d1, d2], hl3⟩) :: z.drop k, rfl, by simp, by omega, rfl, ?_, ?_, St.done u7 hperm rfl⟩
      · have h1 := (hperm.map Prod.fst).symm
        refine h1.trans ?_
        rw [List.take_add_one, hx]
        exact (List.Perm.cons x pz).trans (List.perm_append_comm (l₁ := [x]))
      · refine insert_sorted (by rw [List.take_append_drop]; exact sz) hd ?_
        rcases hb2 with h0 | ⟨S0, y, h0, h1⟩
        · exact .inl h0
        · exact .inr ⟨S0, y, h0, h1⟩
      
    · obtain ⟨j, rfl⟩ : ∃ j, k = j + 1 := ⟨k - 1, by omega⟩
      obtain ⟨y, hy⟩ := get_some (show j < z.length by omega)
      have gy := gz y (List.mem_of_getElem? hy)
      have cy := st6.cell hy
      have hyy := St.here st6 (List.mem_of_getElem? hy)
      obtain ⟨b0, b1, b2, hyc⟩ := Raw3.lit y.2
      rw [hyc] at cy hyy
      have c0 : (0 : Int) < ((j + 1 : Nat) : Int) := by omega
      have k0 : IntKind.i64.wrap (((j + 1 : Nat) : Int) - 1) = (j : Int) := by rw [wrap_in _ (by omega)]; omega
      have k1 : (j : Int) < (z.length : Int) := by omega
      simp (disch := omega) only [VW, VY, VZ, VA, VB, VC, VE, TY, ↓reduceIte, Nat.reduceEqDiff, Nat.reduceAdd, Nat.reduceMul, Nat.reduceSub, Nat.reduceLeDiff, List.length_cons, List.length_nil, List.length_append, List.append_assoc, List.take_succ_cons, List.take_zero, List.drop_succ_cons, List.drop_zero, List.set_cons_zero, List.set_cons_succ, true_or, or_true, and_self, Bool.false_eq_true, Nat.le_refl, Option.bind_some, Option.map_some, Option.getD_some, Option.isSome_some, List.map_cons, List.map_nil, List.cons_append, List.nil_append, List.append_nil, List.getElem?_cons_zero, List.getElem?_cons_succ, eq_self, Int.reduceLT, Int.reduceLE, Int.reduceNeg, Int.reduceEq, e6]
      refine draw_id (by kernel_rfl) ?_
      simp (disch := omega) only [VW, VY, VZ, VA, VB, VC, VE, TY, ↓reduceIte, Nat.reduceEqDiff, Nat.reduceAdd, Nat.reduceMul, Nat.reduceSub, Nat.reduceLeDiff, List.length_cons, List.length_nil, List.length_append, List.append_assoc, List.take_succ_cons, List.take_zero, List.drop_succ_cons, List.drop_zero, List.set_cons_zero, List.set_cons_succ, true_or, or_true, and_self, Bool.false_eq_true, Nat.le_refl, Option.bind_some, Option.map_some, Option.getD_some, Option.isSome_some, List.map_cons, List.map_nil, List.cons_append, List.nil_append, List.append_nil, List.getElem?_cons_zero, List.getElem?_cons_succ, eq_self, Int.reduceLT, Int.reduceLE, Int.reduceNeg, Int.reduceEq, e3, e5, e6, c0, gb, k0, k1, ix, cy]
      refine .inl ⟨by kernel_rfl, ?_⟩; refine wkBefore_c (x4.mono E6) hyy gx gy fun h7 E7 => ?_
      have st7 : St h h7 z vo [blkA h1.length [.int .i64 x.k, wa1, wa2] 42] := Sep.mono st6 E7
      have gb7 := (Sep.pull st7 2 rfl).rdAll (n := 3) rfl
      have cy7 := st7.cell hy
      rw [hyc] at cy7
      obtain ⟨h1', h2', _⟩ := bcmp_le gx gy
      by_cases c : bcmp x y.1 < 0
      · rw [decide_eq_true c]
        simp (disch := omega) only [VW, VY, VZ, VA, VB, VC, VE, TY, ↓reduceIte, Nat.reduceEqDiff, Nat.reduceAdd, Nat.reduceMul, Nat.reduceSub, Nat.reduceLeDiff, List.length_cons, List.length_nil, List.length_append, List.append_assoc, List.take_succ_cons, List.take_zero, List.drop_succ_cons, List.drop_zero, List.set_cons_zero, List.set_cons_succ, true_or, or_true, and_self, Bool.false_eq_true, Nat.le_refl, Option.bind_some, Option.map_some, Option.getD_some, Option.isSome_some, List.map_cons, List.map_nil, List.cons_append, List.nil_append, List.append_nil, List.getElem?_cons_zero, List.getElem?_cons_succ, eq_self, Int.reduceLT, Int.reduceLE, Int.reduceNeg, Int.reduceEq, gb7, cy7, e3, e5, e6, e7, e8, e9, k0]
        refine ⟨j, by omega, j, rfl, by omega, rfl, ?_, E6.trans E7⟩
        rw [List.drop_eq_getElem_cons (by omega)]
        rw [List.getElem?_eq_getElem (by omega)] at hy
        intro p hp
        rcases List.mem_cons.1 hp with rfl | hp
        · rw [Option.some.inj hy]; exact h1'.1 (by omega)
        · exact hd p hp
      · rw [decide_eq_false c]
        simp (disch := omega) only [VW, VY, VZ, VA, VB, VC, VE, TY, ↓reduceIte, Nat.reduceEqDiff, Nat.reduceAdd, Nat.reduceMul, Nat.reduceSub, Nat.reduceLeDiff, List.length_cons, List.length_nil, List.length_append, List.append_assoc, List.take_succ_cons, List.take_zero, List.drop_succ_cons, List.drop_zero, List.set_cons_zero, List.set_cons_succ, true_or, or_true, and_self, Bool.false_eq_true, Nat.le_refl, Option.bind_some, Option.map_some, Option.getD_some, Option.isSome_some, List.map_cons, List.map_nil, List.cons_append, List.nil_append, List.append_nil, List.getElem?_cons_zero, List.getElem?_cons_succ, eq_self, Int.reduceLT, Int.reduceLE, Int.reduceNeg, Int.reduceEq, gb7, cy7]
        obtain ⟨k, hk'⟩ : ∃ k : Nat, k = j + 1 := ⟨_, rfl⟩
        have e6 : e 6 = .int .i64 (k : Int) := by rw [hk']; exact e6
        have hd : ∀ p ∈ z.drop k, leB x p.1 := by rw [hk']; exact hd
        have hk : k ≤ z.length := by omega
        have hb2 : z.take k = [] ∨ ∃ S0 y, z.take k = S0 ++ [y] ∧ leB y.1 x := .inr ⟨z.take j, y, by rw [hk', List.take_add_one, hy]; rfl, h2'.1 c⟩
        have E6 := E6.trans E7
        have st6 := st7
        have gb := gb7
        clear hk' c0 k0 k1 cy cy7 hyy h1' h2' c
        generalize h7 = h6 at *
        have rz := Sep.row st6
        have isr := rz.isRow
        have rc1 := rz.cut (lo := 0) (m := k) (Nat.zero_le _) (by simpa using hk)
        have rc2 := rz.cut (lo := k) (m := z.length) hk (by simp)
        rw [List.drop_zero, ← List.map_take] at rc1
        rw [List.take_of_length_le (by simp), ← List.map_drop] at rc2
        have rc1 : Row h6 (raws (z.take k)) (cutV vo 3 0 k) := rc1
        have rc2 : Row h6 (raws (z.drop k)) (cutV vo 3 k z.length) := rc2
        have lr : (raws z).length = z.length := by simp
        rw [lr] at isr
        have cap := isr.cap
        have m1 : (0 : Int) ≤ (k : Int) := by omega
        have m2 : (k : Int) ≤ (rowC vo : Int) := by omega
        have m3 : (k : Int).toNat = k := rfl
        have m4 : (k : Int) ≤ (z.length : Int) := by omega
        have m5 : k ≤ rowC vo := by omega
        have m6 : z.length ≤ rowC vo := cap
        refine draw_ord [1, 2, 3, 5, 9, 10, 11, 0, 4, 6, 7, 8, 12, 13] (by kernel_rfl) (by simp only [List.filterMap_cons, List.filterMap_nil, List.getElem?_cons_zero, List.getElem?_cons_succ]; rfl) ?_
        simp (disch := omega) only [VW, VY, VZ, VA, VB, VC, VE, TY, ↓reduceIte, Nat.reduceEqDiff, Nat.reduceAdd, Nat.reduceMul, Nat.reduceSub, Nat.reduceLeDiff, List.length_cons, List.length_nil, List.length_append, List.append_assoc, List.take_succ_cons, List.take_zero, List.drop_succ_cons, List.drop_zero, List.set_cons_zero, List.set_cons_succ, true_or, or_true, and_self, Bool.false_eq_true, Nat.le_refl, Option.bind_some, Option.map_some, Option.getD_some, Option.isSome_some, List.map_cons, List.map_nil, List.cons_append, List.nil_append, List.append_nil, List.getElem?_cons_zero, List.getElem?_cons_succ, eq_self, Int.reduceLT, Int.reduceLE, Int.reduceNeg, Int.reduceEq, e3, e5, e6, isr.sl, m1, m2, m3, m4, m5, m6, gb]
        have u1 := Sep.empty (α := Raw3) st6 42 true
        have E7 := Ext.one h6 (some ⟨[], 42, false, true⟩)
        have gb1 := (u1.pull 3 rfl).rdAll (n := 3) rfl
        have lk : (z.take k).length = k := by rw [List.length_take]; omega
        have ld : (z.drop k).length = z.length - k := List.length_drop
        simp (disch := omega) only [VW, VY, VZ, VA, VB, VC, VE, TY, ↓reduceIte, Nat.reduceEqDiff, Nat.reduceAdd, Nat.reduceMul, Nat.reduceSub, Nat.reduceLeDiff, List.length_cons, List.length_nil, List.length_append, List.append_assoc, List.take_succ_cons, List.take_zero, List.drop_succ_cons, List.drop_zero, List.set_cons_zero, List.set_cons_succ, true_or, or_true, and_self, Bool.false_eq_true, Nat.le_refl, Option.bind_some, Option.map_some, Option.getD_some, Option.isSome_some, List.map_cons, List.map_nil, List.cons_append, List.nil_append, List.append_nil, List.getElem?_cons_zero, List.getElem?_cons_succ, eq_self, Int.reduceLT, Int.reduceLE, Int.reduceNeg, Int.reduceEq, gb1]
        refine sep_appendRow u1 (rc1.mono E7) te28 tk42 rfl (by decide) (by simp; omega) fun w1 h8 u2 => ?_
        have gb2 := (u2.pull 3 rfl).rdAll (n := 3) rfl
        simp (disch := omega) only [VW, VY, VZ, VA, VB, VC, VE, TY, ↓reduceIte, Nat.reduceEqDiff, Nat.reduceAdd, Nat.reduceMul, Nat.reduceSub, Nat.reduceLeDiff, List.length_cons, List.length_nil, List.length_append, List.append_assoc, List.take_succ_cons, List.take_zero, List.drop_succ_cons, List.drop_zero, List.set_cons_zero, List.set_cons_succ, true_or, or_true, and_self, Bool.false_eq_true, Nat.le_refl, Option.bind_some, Option.map_some, Option.getD_some, Option.isSome_some, List.map_cons, List.map_nil, List.cons_append, List.nil_append, List.append_nil, List.getElem?_cons_zero, List.getElem?_cons_succ, eq_self, Int.reduceLT, Int.reduceLE, Int.reduceNeg, Int.reduceEq, gb2]
        have hds : ∀ (ds : List Value) (h' : Heap), Here h' x ds → ds.length = 3 := fun ds h' hh => by rw [Here.len hh]; rfl
        refine .inl ⟨by kernel_rfl, ?_⟩; refine wkBox_c (x4h.mono u2.ext) ⟨by omega, by omega⟩ fun ds h9 s9 => ?_
        have hl3 : ds.length = 3 := hds _ _ s9.here
        obtain ⟨d0, d1, d2, rfl⟩ : ∃ d0 d1 d2, ds = [d0, d1, d2] := by
          match ds, hl3 with
          | [d0, d1, d2], _ => exact ⟨_, _, _, rfl⟩
        have u3 := u2.add s9
        have u3 : Sep h h9 [inA ((x, ⟨[d0, d1, d2], hl3⟩) :: z), ownA (α := Raw3) 42 ([] ++ raws (z.take k)) w1, ownA (α := Raw3) 42 (raws z) vo, blkA h1.length [.int .i64 x.k, wa1, wa2] 42] := Sep.inCons hl3 (u3.pull 3 rfl).swap
        have gb3 := (u3.pull 3 rfl).rdAll (n := 3) rfl
        have u4 := (Sep.rep0 (x := (⟨[d0, d1, d2], hl3⟩ : Raw3)) (cs := [d0, d1, d2]) (u3.pull 1 rfl) (raw_rep _)).swap
        have gb3' := ((u3.newBlk [d0, d1, d2] 42 true).pull 4 rfl).rdAll (n := 3) rfl
        simp (disch := omega) only [VW, VY, VZ, VA, VB, VC, VE, TY, ↓reduceIte, Nat.reduceEqDiff, Nat.reduceAdd, Nat.reduceMul, Nat.reduceSub, Nat.reduceLeDiff, List.length_cons, List.length_nil, List.length_append, List.append_assoc, List.take_succ_cons, List.take_zero, List.drop_succ_cons, List.drop_zero, List.set_cons_zero, List.set_cons_succ, true_or, or_true, and_self, Bool.false_eq_true, Nat.le_refl, Option.bind_some, Option.map_some, Option.getD_some, Option.isSome_some, List.map_cons, List.map_nil, List.cons_append, List.nil_append, List.append_nil, List.getElem?_cons_zero, List.getElem?_cons_succ, eq_self, Int.reduceLT, Int.reduceLE, Int.reduceNeg, Int.reduceEq, gb3, gb3']
        refine sep_append (y := (⟨[d0, d1, d2], hl3⟩ : Raw3)) u4 rfl rfl te28 tk42 rfl (by decide) (by simp; omega) fun w2 h10 u5 => ?_
        have gb5 := (u5.pull 3 rfl).rdAll (n := 3) rfl
        have rz5 := (u5.pull 2 rfl).row.cut (lo := k) (m := z.length) hk (by simp)
        rw [List.take_of_length_le (by simp), ← List.map_drop] at rz5
        have rz5 : Row h10 (raws (z.drop k)) (cutV vo 3 k z.length) := rz5
        simp (disch := omega) only [VW, VY, VZ, VA, VB, VC, VE, TY, ↓reduceIte, Nat.reduceEqDiff, Nat.reduceAdd, Nat.reduceMul, Nat.reduceSub, Nat.reduceLeDiff, List.length_cons, List.length_nil, List.length_append, List.append_assoc, List.take_succ_cons, List.take_zero, List.drop_succ_cons, List.drop_zero, List.set_cons_zero, List.set_cons_succ, true_or, or_true, and_self, Bool.false_eq_true, Nat.le_refl, Option.bind_some, Option.map_some, Option.getD_some, Option.isSome_some, List.map_cons, List.map_nil, List.cons_append, List.nil_append, List.append_nil, List.getElem?_cons_zero, List.getElem?_cons_succ, eq_self, Int.reduceLT, Int.reduceLE, Int.reduceNeg, Int.reduceEq, gb5]
        refine sep_appendRow u5 rz5 te28 tk42 rfl (by decide) (by simp; omega) fun w3 h11 u6 => ?_
        have gb6 := (u6.pull 3 rfl).rdAll (n := 3) rfl
        simp (disch := omega) only [VW, VY, VZ, VA, VB, VC, VE, TY, ↓reduceIte, Nat.reduceEqDiff, Nat.reduceAdd, Nat.reduceMul, Nat.reduceSub, Nat.reduceLeDiff, List.length_cons, List.length_nil, List.length_append, List.append_assoc, List.take_succ_cons, List.take_zero, List.drop_succ_cons, List.drop_zero, List.set_cons_zero, List.set_cons_succ, true_or, or_true, and_self, Bool.false_eq_true, Nat.le_refl, Option.bind_some, Option.map_some, Option.getD_some, Option.isSome_some, List.map_cons, List.map_nil, List.cons_append, List.nil_append, List.append_nil, List.getElem?_cons_zero, List.getElem?_cons_succ, eq_self, Int.reduceLT, Int.reduceLE, Int.reduceNeg, Int.reduceEq, gb6, e7, e8, e9, wrap_in]
        have hperm : ((x, (⟨[d0, d1, d2], hl3⟩ : Raw3)) :: z).Perm (z.take k ++ (x, ⟨[d0, d1, d2], hl3⟩) :: z.drop k) := by
          have := (List.perm_middle (a := (x, (⟨[d0, d1, d2], hl3⟩ : Raw3))) (l₁ := z.take k) (l₂ := z.drop k)).symm
          rwa [List.take_append_drop] at this
        have u7 : Sep h h11 (ownA (α := Raw3) 42 (raws (z.take k ++ (x, ⟨[d0, d1, d2], hl3⟩) :: z.drop k)) w3 :: inA ((x, ⟨[d0, d1, d2], hl3⟩) :: z) :: []) := by
          have := Sep.keep (L := [ownA (α := Raw3) 42 (([] ++ raws (z.take k)) ++ [⟨[d0, d1, d2], hl3⟩] ++ raws (z.drop k)) w3, inA ((x, ⟨[d0, d1, d2], hl3⟩) :: z)]) u6
          simpa using this
        refine ⟨_, by omega, i + 1, w3, z.take k ++ (x, ⟨[d0, d1, d2], hl3⟩) :: z.drop k, rfl, by simp, by omega, rfl, ?_, ?_, St.done u7 hperm rfl⟩
        · have h1 := (hperm.map Prod.fst).symm
          refine h1.trans ?_
          rw [List.take_add_one, hx]
          exact (List.Perm.cons x pz).trans (List.perm_append_comm (l₁ := [x]))
        · refine insert_sorted (by rw [List.take_append_drop]; exact sz) hd ?_
          rcases hb2 with h0 | ⟨S0, y, h0, h1⟩
          · exact .inl h0
          · exact .inr ⟨S0, y, h0, h1⟩
        
  · obtain rfl : i = l.length := by omega
    have q1 : ¬ (l.length : Int) < (l.length : Int) := by omega
    have pl := st.len.plain
    rw [List.take_length] at pz
    simp (disch := omega) only [VW, VY, VZ, VA, VB, VC, VE, TY, ↓reduceIte, Nat.reduceEqDiff, Nat.reduceAdd, Nat.reduceMul, Nat.reduceSub, Nat.reduceLeDiff, List.length_cons, List.length_nil, List.length_append, List.append_assoc, List.take_succ_cons, List.take_zero, List.drop_succ_cons, List.drop_zero, List.set_cons_zero, List.set_cons_succ, true_or, or_true, and_self, Bool.false_eq_true, Nat.le_refl, Option.bind_some, Option.map_some, Option.getD_some, Option.isSome_some, List.map_cons, List.map_nil, List.cons_append, List.nil_append, List.append_nil, List.getElem?_cons_zero, List.getElem?_cons_succ, eq_self, Int.reduceLT, Int.reduceLE, Int.reduceNeg, Int.reduceEq, e3, q1, pl]
    have e : bxs z = sortM l := sortM_of hg pz (List.pairwise_map.2 sz)
    rw [← e] at hQ
    exact hQ _ _ (Sep.whole st)
end Go.Proofs

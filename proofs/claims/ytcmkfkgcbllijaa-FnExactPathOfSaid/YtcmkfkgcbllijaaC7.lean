/- Contracts of functions, facts of types, or the plain law behind one statement (own work): C7. Conditions: those told in each theorem. -/
import Derived.Test.YtcmkfkgcbllijaaM1
set_option linter.all false
set_option linter.unusedSimpArgs false
set_option maxRecDepth 4000
namespace Go.Proofs
open Go Go.V

theorem trPaths_c {l : List Nd} {v : Value} {h : Heap} {Q : Value → Heap → Prop} (hl : Row h l v) (hn : l.length ≤ 200) (he : endM l 1 = some [])
    (hQ : ∀ w h', Ext h h' → Row h' (pathsM l [bE]) w → Q w h') : CallsV Try.prog 41 [v] h Q := by
  refine CallsV.start Try.func41 rfl (by rw [Try.results41]) (by kernel_rfl) (by rw [Try.ntmps41]; simp) ?_
  simp (disch := omega) only [VW, VY, VZ, TY, ↓reduceIte, Nat.reduceEqDiff, Nat.reduceAdd, Nat.reduceMul, Nat.reduceSub, Nat.reduceLeDiff, List.length_cons, List.length_nil, List.length_append, List.append_assoc, List.take_succ_cons, List.take_zero, List.drop_succ_cons, List.drop_zero, List.set_cons_zero, List.set_cons_succ, true_or, or_true, and_self, Bool.false_eq_true, Nat.le_refl, Option.bind_some, Option.map_some, Option.getD_some, Option.isSome_some, List.map_cons, List.map_nil, List.cons_append, List.nil_append, List.append_nil, List.getElem?_cons_zero, List.getElem?_cons_succ, eq_self, Int.reduceLT, Int.reduceLE, Int.reduceNeg, Int.reduceEq, hl.isRow.len]
  refine loop_rule (fun n e h' => ∃ (p : Nat) (st out : List ByteArray) (path : ByteArray) (vo vt : Value) (fo ft : List Nat), e 8 = v ∧ e 9 = .int .i64 l.length ∧ e 10 = .int .i64 p ∧ e 3 = vt ∧ e 4 = vo ∧ e 5 = .string path ∧ p ≤ l.length ∧ n = l.length - p ∧ Ext h h' ∧
    Own 9 h' st.tail.reverse vo fo ∧ Own 9 h' out vt ft ∧ (∀ b ∈ fo, h.length ≤ b ∧ b ∉ ft) ∧ (∀ b ∈ ft, h.length ≤ b) ∧ st.length ≤ p + 1 ∧ out.length ≤ p ∧ (∀ q ∈ st, q.size ≤ p) ∧ (∀ q, st.head? = some q → q = path) ∧
    endM (l.drop p) st.length = some [] ∧ out ++ pathsM (l.drop p) st = pathsM l [bE]) ?_ l.length _ _
    ⟨0, [bE], [], bE, _, _, [], [], rfl, rfl, rfl, rfl, rfl, rfl, Nat.zero_le _, rfl, .refl _, .nil _ _, .nil _ _, by simp, by simp, by simp, by simp, by intro q hq; simp only [List.mem_singleton] at hq; subst hq; decide, by simp, by simpa using he, by simp⟩
  rintro n e h1 ⟨p, st, out, path, vo, vt, fo, ft, e8, e9, e10, e3, e4, e5, hp, rfl, E1, oo, ot, hfo, hft, hst, hout, hsz, hhd, hend, hpath⟩
  simp (disch := omega) only [VW, VY, VZ, TY, ↓reduceIte, Nat.reduceEqDiff, Nat.reduceAdd, Nat.reduceMul, Nat.reduceSub, Nat.reduceLeDiff, List.length_cons, List.length_nil, List.length_append, List.append_assoc, List.take_succ_cons, List.take_zero, List.drop_succ_cons, List.drop_zero, List.set_cons_zero, List.set_cons_succ, true_or, or_true, and_self, Bool.false_eq_true, Nat.le_refl, Option.bind_some, Option.map_some, Option.getD_some, Option.isSome_some, List.map_cons, List.map_nil, List.cons_append, List.nil_append, List.append_nil, List.getElem?_cons_zero, List.getElem?_cons_succ, eq_self, Int.reduceLT, Int.reduceLE, Int.reduceNeg, Int.reduceEq, e8, e9, e10]
  by_cases hlt : p < l.length
  · obtain ⟨x, hx⟩ := get_some hlt
    have c1 : (p : Int) < (l.length : Int) := by omega
    obtain ⟨_, _, x3, x4, x5⟩ := row_Nd (hl.mono E1) hx
    rw [drop_cons hx] at hend hpath
    cases st with
    | nil => simp [endM] at hend
    | cons q st =>
      obtain rfl := hhd q rfl
      have hq := hsz q (by simp)
      simp only [List.tail_cons] at oo
      simp only [List.length_cons] at hst hend
      have oo1 := oo.ext (.one h1 (some ⟨[.int .i64 x.kind, .int .i64 x.num], 61, false, true⟩))
      have ot1 := ot.ext (.one h1 (some ⟨[.int .i64 x.kind, .int .i64 x.num], 61, false, true⟩))
      simp (disch := omega) only [VW, VY, VZ, TY, ↓reduceIte, Nat.reduceEqDiff, Nat.reduceAdd, Nat.reduceMul, Nat.reduceSub, Nat.reduceLeDiff, List.length_cons, List.length_nil, List.length_append, List.append_assoc, List.take_succ_cons, List.take_zero, List.drop_succ_cons, List.drop_zero, List.set_cons_zero, List.set_cons_succ, true_or, or_true, and_self, Bool.false_eq_true, Nat.le_refl, Option.bind_some, Option.map_some, Option.getD_some, Option.isSome_some, List.map_cons, List.map_nil, List.cons_append, List.nil_append, List.append_nil, List.getElem?_cons_zero, List.getElem?_cons_succ, eq_self, Int.reduceLT, Int.reduceLE, Int.reduceNeg, Int.reduceEq, e8, e9, e10, e3, e4, e5, c1, hl.isRow.ix, x3]
      have hqs : q.size ≤ 9223372036854775807 := by omega
      refine append_at (α := ByteArray) [q] ot1 (Cells.one (rep_str hqs)) (snoc2 _ _ _) (len1 _ _) te66 tk9 rfl (by simpa using ot.nodup) rfl (by decide) (by simp only []; omega) fun vt2 h2 ft2 ot2 g2 m2 => ?_
      have E2 := g2.ext (E1.snoc _) hft
      have k1 : getC h2 h1.length 0 = some (.int .i64 x.kind) := by
        rw [getC_congr (g2.eq h1.length (by simp) (fun hb => by have := ot.live _ hb; omega)), getC_new]; rfl
      have oo3 := oo1.other g2 fun b hb => (hfo b hb).2
      have hd3 : ∀ b ∈ fo, b ∉ ft2 := fun b hb hb2 => by
        rcases m2 b hb2 with h3 | h3 | h3
        · exact (hfo b hb).2 h3
        · simp at h3
        · have := oo.live b hb; simp at h3; omega
      have hft2 : ∀ b ∈ ft2, h.length ≤ b := fun b hb => by
        have := E1.le
        rcases m2 b hb with h3 | h3 | h3
        · exact hft b h3
        · simp at h3
        · simp at h3; omega
      simp only [pathsM] at hpath
      simp only [endM] at hend
      have hfo2 : ∀ b ∈ fo, h.length ≤ b := fun b hb => (hfo b hb).1
      simp (disch := omega) only [VW, VY, VZ, TY, ↓reduceIte, Nat.reduceEqDiff, Nat.reduceAdd, Nat.reduceMul, Nat.reduceSub, Nat.reduceLeDiff, List.length_cons, List.length_nil, List.length_append, List.append_assoc, List.take_succ_cons, List.take_zero, List.drop_succ_cons, List.drop_zero, List.set_cons_zero, List.set_cons_succ, true_or, or_true, and_self, Bool.false_eq_true, Nat.le_refl, Option.bind_some, Option.map_some, Option.getD_some, Option.isSome_some, List.map_cons, List.map_nil, List.cons_append, List.nil_append, List.append_nil, List.getElem?_cons_zero, List.getElem?_cons_succ, eq_self, Int.reduceLT, Int.reduceLE, Int.reduceNeg, Int.reduceEq, e8, e9, e10, e3, e4, e5, k1]
      by_cases h0 : x.kind = 0
      · rw [if_pos h0] at hpath hend
        have hU : (⟨#[117]⟩ : ByteArray) = bU := rfl
        have hL : (⟨#[108]⟩ : ByteArray) = bL := rfl
        have b1 := bU_size
        have b2 := bL_size
        have a1 := size_append q bU
        have a2 := size_append q bL
        rw [bU_size] at a1; rw [bL_size] at a2
        simp (disch := omega) only [VW, VY, VZ, TY, ↓reduceIte, Nat.reduceEqDiff, Nat.reduceAdd, Nat.reduceMul, Nat.reduceSub, Nat.reduceLeDiff, List.length_cons, List.length_nil, List.length_append, List.append_assoc, List.take_succ_cons, List.take_zero, List.drop_succ_cons, List.drop_zero, List.set_cons_zero, List.set_cons_succ, true_or, or_true, and_self, Bool.false_eq_true, Nat.le_refl, Option.bind_some, Option.map_some, Option.getD_some, Option.isSome_some, List.map_cons, List.map_nil, List.cons_append, List.nil_append, List.append_nil, List.getElem?_cons_zero, List.getElem?_cons_succ, eq_self, Int.reduceLT, Int.reduceLE, Int.reduceNeg, Int.reduceEq, h0, hU, hL, e8, e9, e10, e3, e4, e5]
        refine append_at (α := ByteArray) [q ++ bU] oo3 (Cells.one (rep_str (by omega))) rfl rfl te66 tk9 rfl (by simpa using oo.nodup) rfl (by decide) (by simp only [List.length_reverse]; omega) fun vo4 h4 fo4 oo4 g4 m4 => ?_
        simp (disch := omega) only [VW, VY, VZ, TY, ↓reduceIte, Nat.reduceEqDiff, Nat.reduceAdd, Nat.reduceMul, Nat.reduceSub, Nat.reduceLeDiff, List.length_cons, List.length_nil, List.length_append, List.append_assoc, List.take_succ_cons, List.take_zero, List.drop_succ_cons, List.drop_zero, List.set_cons_zero, List.set_cons_succ, true_or, or_true, and_self, Bool.false_eq_true, Nat.le_refl, Option.bind_some, Option.map_some, Option.getD_some, Option.isSome_some, List.map_cons, List.map_nil, List.cons_append, List.nil_append, List.append_nil, List.getElem?_cons_zero, List.getElem?_cons_succ, eq_self, Int.reduceLT, Int.reduceLE, Int.reduceNeg, Int.reduceEq, e8, e9, e10, e5, hL, wrap_in]
        refine ⟨_, ?_, p + 1, (q ++ bL) :: (q ++ bU) :: st, out ++ [q], q ++ bL, _, _, fo4, ft2, by simp, rfl, rfl, rfl, by omega, rfl, g4.ext E2 hfo2, ?_, ot2.other g4 fun b hb hb2 => hd3 b hb2 hb, ?_, hft2, ?_, ?_, ?_, ?_, ?_, ?_⟩
        · omega
        · simpa using oo4
        · intro b hb
          have := E1.le
          have := g2.le
          rcases m4 b hb with h3 | h3 | h3
          · exact ⟨hfo2 b h3, hd3 b h3⟩
          · simp at h3
          · have := E2.le
            exact ⟨by omega, fun hb2 => by have := ot2.live b hb2; omega⟩
        · simp; omega
        · simp; omega
        · intro z hz
          simp only [List.mem_cons] at hz
          rcases hz with rfl | rfl | hz
          · omega
          · omega
          · have := hsz z (by simp [hz]); omega
        · simp
        · exact hend
        · rw [← hpath]; simp
      · rw [if_neg h0] at hpath hend
        have olen := oo3.isRow.len Try.prog
        have oix := oo3.isRow.ix Try.prog
        have osl := oo3.isRow.sl Try.prog
        have ocap := oo3.isRow.cap
        rw [List.length_reverse] at olen oix osl ocap
        simp (disch := omega) only [VW, VY, VZ, TY, ↓reduceIte, Nat.reduceEqDiff, Nat.reduceAdd, Nat.reduceMul, Nat.reduceSub, Nat.reduceLeDiff, List.length_cons, List.length_nil, List.length_append, List.append_assoc, List.take_succ_cons, List.take_zero, List.drop_succ_cons, List.drop_zero, List.set_cons_zero, List.set_cons_succ, true_or, or_true, and_self, Bool.false_eq_true, Nat.le_refl, Option.bind_some, Option.map_some, Option.getD_some, Option.isSome_some, List.map_cons, List.map_nil, List.cons_append, List.nil_append, List.append_nil, List.getElem?_cons_zero, List.getElem?_cons_succ, eq_self, Int.reduceLT, Int.reduceLE, Int.reduceNeg, Int.reduceEq, h0, e8, e9, e10, e3, e4, e5, olen]
        cases st with
        | nil =>
          have c3 : ¬ (0 : Int) < ((0 : Nat) : Int) := by decide
          simp (disch := omega) only [VW, VY, VZ, TY, ↓reduceIte, Nat.reduceEqDiff, Nat.reduceAdd, Nat.reduceMul, Nat.reduceSub, Nat.reduceLeDiff, List.length_cons, List.length_nil, List.length_append, List.append_assoc, List.take_succ_cons, List.take_zero, List.drop_succ_cons, List.drop_zero, List.set_cons_zero, List.set_cons_succ, true_or, or_true, and_self, Bool.false_eq_true, Nat.le_refl, Option.bind_some, Option.map_some, Option.getD_some, Option.isSome_some, List.map_cons, List.map_nil, List.cons_append, List.nil_append, List.append_nil, List.getElem?_cons_zero, List.getElem?_cons_succ, eq_self, Int.reduceLT, Int.reduceLE, Int.reduceNeg, Int.reduceEq, c3, e8, e9, e10, e4, e5, wrap_in]
          refine ⟨_, ?_, p + 1, [], out ++ [q], q, _, _, fo, ft2, by simp, rfl, rfl, rfl, by omega, rfl, E2, oo3, ot2, ?_, hft2, by simp, ?_, ?_, ?_, hend, ?_⟩
          · omega
          · exact fun b hb => ⟨(hfo b hb).1, hd3 b hb⟩
          · simp; omega
          · simp
          · simp
          · rw [← hpath]; simp
        | cons r st =>
          have c3 : (0 : Int) < ((r :: st).length : Int) := by simp only [List.length_cons]; omega
          have i1 : ((r :: st).length : Int) - 1 = (st.length : Int) := by simp
          have hget : (r :: st).reverse[st.length]? = some r := by rw [List.reverse_cons, List.getElem?_append_right (by simp)]; simp
          obtain ⟨q1, _⟩ := row_str oo3.toRow hget
          obtain ⟨fo4, oo4, mo4⟩ := oo3.cut (lo := 0) (m := st.length) (Nat.zero_le _) (by simp)
          rw [List.drop_zero, List.reverse_cons, List.take_left' (by simp)] at oo4
          have hr := hsz r (by simp)
          have hlen : (r :: st).length = st.length + 1 := rfl
          simp only [hlen] at olen oix osl ocap c3 i1
          simp (disch := omega) only [VW, VY, VZ, TY, ↓reduceIte, Nat.reduceEqDiff, Nat.reduceAdd, Nat.reduceMul, Nat.reduceSub, Nat.reduceLeDiff, List.length_cons, List.length_nil, List.length_append, List.append_assoc, List.take_succ_cons, List.take_zero, List.drop_succ_cons, List.drop_zero, List.set_cons_zero, List.set_cons_succ, true_or, or_true, and_self, Bool.false_eq_true, Nat.le_refl, Option.bind_some, Option.map_some, Option.getD_some, Option.isSome_some, List.map_cons, List.map_nil, List.cons_append, List.nil_append, List.append_nil, List.getElem?_cons_zero, List.getElem?_cons_succ, eq_self, Int.reduceLT, Int.reduceLE, Int.reduceNeg, Int.reduceEq, c3, e8, e9, e10, e4, e5, olen, oix, osl, wrap_in, i1, q1]
          refine ⟨_, ?_, p + 1, r :: st, out ++ [q], r, _, _, fo4, ft2, by simp, rfl, rfl, rfl, by omega, rfl, E2, oo4, ot2, ?_, hft2, ?_, ?_, ?_, ?_, hend, ?_⟩
          · omega
          · exact fun b hb => ⟨(hfo b (mo4 b hb)).1, hd3 b (mo4 b hb)⟩
          · simp at hst ⊢; omega
          · simp; omega
          · intro z hz
            have := hsz z (List.mem_cons_of_mem _ hz); omega
          · simp
          · rw [← hpath]; simp
  · obtain rfl : p = l.length := by omega
    have c1 : ¬ (l.length : Int) < (l.length : Int) := by omega
    simp (disch := omega) only [VW, VY, VZ, TY, ↓reduceIte, Nat.reduceEqDiff, Nat.reduceAdd, Nat.reduceMul, Nat.reduceSub, Nat.reduceLeDiff, List.length_cons, List.length_nil, List.length_append, List.append_assoc, List.take_succ_cons, List.take_zero, List.drop_succ_cons, List.drop_zero, List.set_cons_zero, List.set_cons_succ, true_or, or_true, and_self, Bool.false_eq_true, Nat.le_refl, Option.bind_some, Option.map_some, Option.getD_some, Option.isSome_some, List.map_cons, List.map_nil, List.cons_append, List.nil_append, List.append_nil, List.getElem?_cons_zero, List.getElem?_cons_succ, eq_self, Int.reduceLT, Int.reduceLE, Int.reduceNeg, Int.reduceEq, e8, e9, e10, e3, c1]
    rw [List.drop_length] at hpath
    simp only [pathsM, List.append_nil] at hpath
    subst hpath
    exact hQ _ _ E1 ot.toRow
end Go.Proofs

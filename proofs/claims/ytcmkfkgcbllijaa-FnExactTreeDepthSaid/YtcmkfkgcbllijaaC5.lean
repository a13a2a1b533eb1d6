/- Contracts of functions, facts of types, or the plain law behind one statement (own work): C5. Conditions: those told in each theorem. -/
import Derived.Test.YtcmkfkgcbllijaaC4
set_option linter.all false
set_option linter.unusedSimpArgs false
namespace Go.Proofs
open Go Go.V

def bU : ByteArray := ⟨#[117]⟩
def bL : ByteArray := ⟨#[108]⟩
theorem bU_size : bU.size = 1 := rfl
theorem bL_size : bL.size = 1 := rfl
def bE : ByteArray := ⟨#[]⟩

/-- The paths of all nodes; the open ones, the next first. -/
def pathsM : List Nd → List ByteArray → List ByteArray
  | [], _ => []
  | _ :: _, [] => []
  | x :: l, q :: st => q :: pathsM l (if x.kind = 0 then (q ++ bL) :: (q ++ bU) :: st else st)

set_option maxRecDepth 4000 in
theorem pathsOf_c {l : List Nd} {v : Value} {h : Heap} {Q : Value → Heap → Prop} (hl : Row h l v) (hn : l.length ≤ 200) (he : endM l 1 = some [])
    (hQ : ∀ w h', Ext h h' → Row h' (pathsM l [bE]) w → Q w h') : CallsV Try.prog 43 [v] h Q := by
  refine CallsV.start Try.func43 rfl (by rw [Try.results43]) (by kernel_rfl) (by rw [Try.ntmps43]; simp) ?_
  simp (disch := omega) only [VW, VY, VZ, TY, ↓reduceIte, Nat.reduceEqDiff, Nat.reduceAdd, Nat.reduceMul, Nat.reduceSub, Nat.reduceLeDiff, List.length_cons, List.length_nil, List.length_append, List.append_assoc, List.take_succ_cons, List.take_zero, List.drop_succ_cons, List.drop_zero, List.set_cons_zero, List.set_cons_succ, true_or, or_true, and_self, Bool.false_eq_true, Nat.le_refl, Option.bind_some, Option.map_some, Option.getD_some, Option.isSome_some, List.map_cons, List.map_nil, List.cons_append, List.nil_append, List.append_nil, List.getElem?_cons_zero, List.getElem?_cons_succ, eq_self, Int.reduceLT, Int.reduceLE, Int.reduceNeg, Int.reduceEq, hl.isRow.len]
  have o0 : Own (α := ByteArray) 9 (h ++ [some ⟨[.string bE], 9, false, true⟩]) [bE] (.slice (some ⟨h.length, 0, none⟩) 1 1) [h.length] :=
    Own.mk' (α := ByteArray) (l := [bE]) (fps := [[]]) (Nat.le_refl _) (by simp) getB_append_new rfl rfl rfl (Cells.one (rep_str (by decide))) (by simp)
  refine loop_rule (fun n e h' => ∃ (p : Nat) (st out : List ByteArray) (vo vt : Value) (fo ft : List Nat), e 9 = v ∧ e 10 = .int .i64 l.length ∧ e 11 = .int .i64 p ∧ e 3 = vo ∧ e 4 = vt ∧ p ≤ l.length ∧ n = l.length - p ∧ Ext h h' ∧
    Own 9 h' st.reverse vo fo ∧ Own 9 h' out vt ft ∧ (∀ b ∈ fo, h.length ≤ b ∧ b ∉ ft) ∧ (∀ b ∈ ft, h.length ≤ b) ∧ st.length ≤ p + 1 ∧ out.length ≤ p ∧ (∀ q ∈ st, q.size ≤ p) ∧
    endM (l.drop p) st.length = some [] ∧ out ++ pathsM (l.drop p) st = pathsM l [bE]) ?_ l.length _ _
    ⟨0, [bE], [], _, _, [h.length], [], rfl, rfl, rfl, rfl, rfl, Nat.zero_le _, rfl, .one _ _, o0, .nil _ _, by simp, by simp, by simp, by simp, by intro q hq; simp only [List.mem_singleton] at hq; subst hq; decide, by simpa using he, by simp⟩
  rintro n e h1 ⟨p, st, out, vo, vt, fo, ft, e9, e10, e11, e3, e4, hp, rfl, E1, oo, ot, hfo, hft, hst, hout, hsz, hend, hpath⟩
  simp (disch := omega) only [VW, VY, VZ, TY, ↓reduceIte, Nat.reduceEqDiff, Nat.reduceAdd, Nat.reduceMul, Nat.reduceSub, Nat.reduceLeDiff, List.length_cons, List.length_nil, List.length_append, List.append_assoc, List.take_succ_cons, List.take_zero, List.drop_succ_cons, List.drop_zero, List.set_cons_zero, List.set_cons_succ, true_or, or_true, and_self, Bool.false_eq_true, Nat.le_refl, Option.bind_some, Option.map_some, Option.getD_some, Option.isSome_some, List.map_cons, List.map_nil, List.cons_append, List.nil_append, List.append_nil, List.getElem?_cons_zero, List.getElem?_cons_succ, eq_self, Int.reduceLT, Int.reduceLE, Int.reduceNeg, Int.reduceEq, e9, e10, e11]
  by_cases hlt : p < l.length
  · obtain ⟨x, hx⟩ := get_some hlt
    have c1 : (p : Int) < (l.length : Int) := by omega
    obtain ⟨_, _, x3, x4, x5⟩ := row_Nd (hl.mono E1) hx
    rw [drop_cons hx] at hend hpath
    cases st with
    | nil => simp [endM] at hend
    | cons q st =>
      have hq := hsz q (by simp)
      have hrl : (q :: st).reverse.length = st.length + 1 := by simp
      have hget : (q :: st).reverse[st.length]? = some q := by rw [List.reverse_cons, List.getElem?_append_right (by simp)]; simp
      have oo1 := oo.ext (.one h1 (some ⟨[.int .i64 x.kind, .int .i64 x.num], 61, false, true⟩))
      obtain ⟨q1, _⟩ := row_str oo1.toRow hget
      have olen := oo1.isRow.len Try.prog
      have oix := oo1.isRow.ix Try.prog
      have osl := oo1.isRow.sl Try.prog
      have ocap := oo1.isRow.cap
      rw [hrl] at olen oix osl ocap
      have i1 : ((st.length + 1 : Nat) : Int) - 1 = (st.length : Int) := by omega
      simp only [List.length_cons] at hst hend
      simp (disch := omega) only [VW, VY, VZ, TY, ↓reduceIte, Nat.reduceEqDiff, Nat.reduceAdd, Nat.reduceMul, Nat.reduceSub, Nat.reduceLeDiff, List.length_cons, List.length_nil, List.length_append, List.append_assoc, List.take_succ_cons, List.take_zero, List.drop_succ_cons, List.drop_zero, List.set_cons_zero, List.set_cons_succ, true_or, or_true, and_self, Bool.false_eq_true, Nat.le_refl, Option.bind_some, Option.map_some, Option.getD_some, Option.isSome_some, List.map_cons, List.map_nil, List.cons_append, List.nil_append, List.append_nil, List.getElem?_cons_zero, List.getElem?_cons_succ, eq_self, Int.reduceLT, Int.reduceLE, Int.reduceNeg, Int.reduceEq, e9, e10, e11, e3, e4, c1, hl.isRow.ix, x3, olen, oix, osl, wrap_in, q1, i1]
      obtain ⟨fo2, oo2, mo2⟩ := oo1.cut (lo := 0) (m := st.length) (Nat.zero_le _) (by simp)
      rw [List.drop_zero, List.reverse_cons, List.take_left' (by simp)] at oo2
      have ot1 := ot.ext (.one h1 (some ⟨[.int .i64 x.kind, .int .i64 x.num], 61, false, true⟩))
      have hqs : q.size ≤ 9223372036854775807 := by omega
      refine append_at (α := ByteArray) [q] ot1 (Cells.one (rep_str hqs)) (snoc2 _ _ _) (len1 _ _) te66 tk9 rfl (by simpa using ot.nodup) rfl (by decide) (by simp only []; omega) fun vt2 h2 ft2 ot2 g2 m2 => ?_
      have E2 := g2.ext (E1.snoc _) hft
      have hlen1 := g2.le
      rw [List.length_append] at hlen1
      have k1 : getC h2 h1.length 0 = some (.int .i64 x.kind) := by
        rw [getC_congr (g2.eq h1.length (by simp) (fun hb => by have := ot.live _ hb; omega)), getC_new]; rfl
      have oo3 := oo2.other g2 fun b hb => (hfo b (mo2 b hb)).2
      have hd3 : ∀ b ∈ fo2, b ∉ ft2 := fun b hb hb2 => by
        rcases m2 b hb2 with h3 | h3 | h3
        · exact (hfo b (mo2 b hb)).2 h3
        · simp at h3
        · have := oo.live b (mo2 b hb); simp at h3; omega
      have hft2 : ∀ b ∈ ft2, h.length ≤ b := fun b hb => by
        have := E1.le
        rcases m2 b hb with h3 | h3 | h3
        · exact hft b h3
        · simp at h3
        · simp at h3; omega
      simp only [pathsM] at hpath
      simp only [endM] at hend
      simp (disch := omega) only [VW, VY, VZ, TY, ↓reduceIte, Nat.reduceEqDiff, Nat.reduceAdd, Nat.reduceMul, Nat.reduceSub, Nat.reduceLeDiff, List.length_cons, List.length_nil, List.length_append, List.append_assoc, List.take_succ_cons, List.take_zero, List.drop_succ_cons, List.drop_zero, List.set_cons_zero, List.set_cons_succ, true_or, or_true, and_self, Bool.false_eq_true, Nat.le_refl, Option.bind_some, Option.map_some, Option.getD_some, Option.isSome_some, List.map_cons, List.map_nil, List.cons_append, List.nil_append, List.append_nil, List.getElem?_cons_zero, List.getElem?_cons_succ, eq_self, Int.reduceLT, Int.reduceLE, Int.reduceNeg, Int.reduceEq, e9, e10, e11, e3, e4, k1]
      by_cases h0 : x.kind = 0
      · rw [if_pos h0] at hpath hend
        have hU : (⟨#[117]⟩ : ByteArray) = bU := rfl
        have hL : (⟨#[108]⟩ : ByteArray) = bL := rfl
        have b1 := bU_size
        have b2 := bL_size
        have a1 := size_append q bU
        have a2 := size_append q bL
        rw [bU_size] at a1; rw [bL_size] at a2
        simp (disch := omega) only [VW, VY, VZ, TY, ↓reduceIte, Nat.reduceEqDiff, Nat.reduceAdd, Nat.reduceMul, Nat.reduceSub, Nat.reduceLeDiff, List.length_cons, List.length_nil, List.length_append, List.append_assoc, List.take_succ_cons, List.take_zero, List.drop_succ_cons, List.drop_zero, List.set_cons_zero, List.set_cons_succ, true_or, or_true, and_self, Bool.false_eq_true, Nat.le_refl, Option.bind_some, Option.map_some, Option.getD_some, Option.isSome_some, List.map_cons, List.map_nil, List.cons_append, List.nil_append, List.append_nil, List.getElem?_cons_zero, List.getElem?_cons_succ, eq_self, Int.reduceLT, Int.reduceLE, Int.reduceNeg, Int.reduceEq, h0, hU, hL]
        have hsz1 : Rep.sz ByteArray = 1 := rfl
        rw [hsz1] at oo3

        have hc2 : Cells (α := ByteArray) h2 [q ++ bU, q ++ bL] [.string (q ++ bU), .string (q ++ bL)] [[], []] := (Cells.one (rep_str (by omega))).append (Cells.one (rep_str (by omega)))
        refine append_at (α := ByteArray) (n := 2) (cs := [.string (q ++ bU), .string (q ++ bL)]) (gps := [[], []]) [q ++ bU, q ++ bL] oo3 hc2 rfl rfl te66 tk9 rfl (by simpa using oo2.nodup) rfl (by decide) (by simp only [List.length_reverse]; omega) fun vo4 h4 fo4 oo4 g4 m4 => ?_
        have hfo2 : ∀ b ∈ fo2, h.length ≤ b := fun b hb => (hfo b (mo2 b hb)).1
        simp (disch := omega) only [VW, VY, VZ, TY, ↓reduceIte, Nat.reduceEqDiff, Nat.reduceAdd, Nat.reduceMul, Nat.reduceSub, Nat.reduceLeDiff, List.length_cons, List.length_nil, List.length_append, List.append_assoc, List.take_succ_cons, List.take_zero, List.drop_succ_cons, List.drop_zero, List.set_cons_zero, List.set_cons_succ, true_or, or_true, and_self, Bool.false_eq_true, Nat.le_refl, Option.bind_some, Option.map_some, Option.getD_some, Option.isSome_some, List.map_cons, List.map_nil, List.cons_append, List.nil_append, List.append_nil, List.getElem?_cons_zero, List.getElem?_cons_succ, eq_self, Int.reduceLT, Int.reduceLE, Int.reduceNeg, Int.reduceEq, e9, e10, e11, wrap_in]
        refine ⟨_, ?_, p + 1, (q ++ bL) :: (q ++ bU) :: st, out ++ [q], _, _, fo4, ft2, by simp, rfl, rfl, by omega, rfl, g4.ext E2 hfo2, ?_, ot2.other g4 fun b hb hb2 => hd3 b hb2 hb, ?_, hft2, ?_, ?_, ?_, ?_, ?_⟩
        · omega
        · simpa using oo4
        · intro b hb
          have := E1.le
          rcases m4 b hb with h3 | h3 | h3
          · exact ⟨hfo2 b h3, hd3 b h3⟩
          · simp at h3
          · exact ⟨by omega, fun hb2 => by have := ot2.live b hb2; omega⟩
        · simp; omega
        · simp; omega
        · intro z hz
          simp only [List.mem_cons] at hz
          rcases hz with rfl | rfl | hz
          · omega
          · omega
          · have := hsz z (by simp [hz]); omega
        · exact hend
        · rw [← hpath]; simp
      · rw [if_neg h0] at hpath hend
        simp (disch := omega) only [VW, VY, VZ, TY, ↓reduceIte, Nat.reduceEqDiff, Nat.reduceAdd, Nat.reduceMul, Nat.reduceSub, Nat.reduceLeDiff, List.length_cons, List.length_nil, List.length_append, List.append_assoc, List.take_succ_cons, List.take_zero, List.drop_succ_cons, List.drop_zero, List.set_cons_zero, List.set_cons_succ, true_or, or_true, and_self, Bool.false_eq_true, Nat.le_refl, Option.bind_some, Option.map_some, Option.getD_some, Option.isSome_some, List.map_cons, List.map_nil, List.cons_append, List.nil_append, List.append_nil, List.getElem?_cons_zero, List.getElem?_cons_succ, eq_self, Int.reduceLT, Int.reduceLE, Int.reduceNeg, Int.reduceEq, h0, e9, e10, e11, wrap_in]
        refine ⟨_, ?_, p + 1, st, out ++ [q], _, _, fo2, ft2, by simp, rfl, rfl, by omega, rfl, E2, oo3, ot2, ?_, hft2, by omega, ?_, ?_, hend, ?_⟩
        · omega
        · exact fun b hb => ⟨(hfo b (mo2 b hb)).1, hd3 b hb⟩
        · simp; omega
        · intro z hz
          have := hsz z (by simp [hz]); omega
        · rw [← hpath]; simp
  · obtain rfl : p = l.length := by omega
    have c1 : ¬ (l.length : Int) < (l.length : Int) := by omega
    simp (disch := omega) only [VW, VY, VZ, TY, ↓reduceIte, Nat.reduceEqDiff, Nat.reduceAdd, Nat.reduceMul, Nat.reduceSub, Nat.reduceLeDiff, List.length_cons, List.length_nil, List.length_append, List.append_assoc, List.take_succ_cons, List.take_zero, List.drop_succ_cons, List.drop_zero, List.set_cons_zero, List.set_cons_succ, true_or, or_true, and_self, Bool.false_eq_true, Nat.le_refl, Option.bind_some, Option.map_some, Option.getD_some, Option.isSome_some, List.map_cons, List.map_nil, List.cons_append, List.nil_append, List.append_nil, List.getElem?_cons_zero, List.getElem?_cons_succ, eq_self, Int.reduceLT, Int.reduceLE, Int.reduceNeg, Int.reduceEq, e9, e10, e11, e4, c1]
    rw [List.drop_length] at hpath
    simp only [pathsM, List.append_nil] at hpath
    subst hpath
    exact hQ _ _ E1 ot.toRow
end Go.Proofs

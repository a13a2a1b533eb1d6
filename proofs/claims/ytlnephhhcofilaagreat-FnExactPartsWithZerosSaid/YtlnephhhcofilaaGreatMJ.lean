/- The layer V and contracts of functions over it, or plain laws behind one statement (own work): MJ=N1,XA. Conditions: those told in each theorem. -/
import Derived.Test.YtlnephhhcofilaaGreatMH2
set_option linter.all false
section
set_option linter.unusedSimpArgs false
set_option linter.unusedVariables false
set_option maxRecDepth 4000
namespace Go.Proofs
open Go Go.V
open Nat renaming reduceEqDiff → jA, reduceAdd → jB, reduceMul → jD, reduceSub → jE, reduceLeDiff → jF
open Int renaming reduceLT → jG, reduceLE → jH, reduceNeg → jI, reduceEq → jJ

theorem cloneInt_c {l : List Int} {v : Value} {h : Heap} {Q : Value → Heap → Prop} (r : Row h l v) (hn : l.length ≤ 1000000000) (hQ : ∀ w h', Sep h h' [ownA 3 l w] → Q w h') :
    CallsV Tryz.prog 68 [v] h Q := by
  refine CallsV.start Tryz.func68 rfl (by rw [Tryz.results68]) (by kernel_rfl) (by rw [Tryz.ntmps68]; simp) ?_
  rcases r.nil_or with ⟨rfl, rfl⟩ | ⟨b, off, n, c, rfl⟩
  · simp (disch := omega) only [WA, ↓reduceIte, jA, jB, jD, jE, jF, jG, jH, jI, jJ]
    exact hQ _ _ ((Sep.nil (.refl h)).nilA _)
  · simp (disch := omega) only [WA, ↓reduceIte, jA, jB, jD, jE, jF, jG, jH, jI, jJ]
    refine sep_appendRow ((Sep.nil (.refl h)).empty (α := Int) 3 true) (r.mono (.one h _)) te23 tk3 rfl (by decide) (by simp; omega) fun w h2 s => ?_
    simp (disch := omega) only [WA, ↓reduceIte, jA, jB, jD, jE, jF, jG, jH, jI, jJ]
    exact hQ _ _ s
theorem l1Own_c {l : List Int} {v : Value} {h : Heap} {Q : Value → Heap → Prop} (r : Row h l v) (hn : l.length ≤ 1000000000) (hQ : ∀ w h', Sep h h' [ownA 3 l w] → Q w h') :
    CallsV Tryz.prog 65 [v] h Q := by
  refine CallsV.start Tryz.func65 rfl (by rw [Tryz.results65]) (by kernel_rfl) (by rw [Tryz.ntmps65]; simp) ?_
  simp (disch := omega) only [WA, ↓reduceIte, jA, jB, jD, jE, jF, jG, jH, jI, jJ]
  refine sep_appendRow ((Sep.nil (.refl h)).empty (α := Int) 3 true) (r.mono (.one h _)) te23 tk3 rfl (by decide) (by simp; omega) fun w h2 s => ?_
  simp (disch := omega) only [WA, ↓reduceIte, jA, jB, jD, jE, jF, jG, jH, jI, jJ]
  exact hQ _ _ s

end Go.Proofs
end

section
set_option linter.unusedSimpArgs false
set_option linter.unusedVariables false
set_option maxRecDepth 4000
namespace Go.Proofs
open Go Go.V
open Nat renaming reduceEqDiff → jA, reduceAdd → jB, reduceMul → jD, reduceSub → jE, reduceLeDiff → jF
open Int renaming reduceLT → jG, reduceLE → jH, reduceNeg → jI, reduceEq → jJ
/- Boxes brought to one power of two. -/
def upL (l : List Int) (k : Nat) : List Int := l.map (· * 2 ^ k)
theorem pow8 {k : Nat} (h : k ≤ 8) : (1 : Int) ≤ 2 ^ k ∧ (2 : Int) ^ k ≤ 256 := by
  have : k = 0 ∨ k = 1 ∨ k = 2 ∨ k = 3 ∨ k = 4 ∨ k = 5 ∨ k = 6 ∨ k = 7 ∨ k = 8 := by omega
  rcases this with rfl | rfl | rfl | rfl | rfl | rfl | rfl | rfl | rfl <;> decide
theorem up_small {x : Int} {k : Nat} (hx : -2048 ≤ x ∧ x ≤ 2048) (hk : k ≤ 8) : -524288 ≤ x * 2 ^ k ∧ x * 2 ^ k ≤ 524288 := by
  have hp := pow8 hk
  generalize (2 : Int) ^ k = p at *
  constructor
  · have h1 : (-2048) * p ≤ x * p := Int.mul_le_mul_of_nonneg_right hx.1 (by omega)
    omega
  · have h1 : x * p ≤ 2048 * p := Int.mul_le_mul_of_nonneg_right hx.2 (by omega)
    omega
theorem scaled_c {l : List Int} {v : Value} {k : Nat} {h : Heap} {Q : Value → Heap → Prop} (r : Row h l v) (hk : k ≤ 8) (hb : ∀ x ∈ l, -2048 ≤ x ∧ x ≤ 2048) (hl : l.length ≤ 3)
    (hQ : ∀ w h', Sep h h' [ownA 3 (upL l k) w] → Q w h') : CallsV Tryz.prog 67 [v, .int .i64 (k : Int)] h Q := by
  refine CallsV.start Tryz.func67 rfl (by rw [Tryz.results67]) (by kernel_rfl) (by rw [Tryz.ntmps67]; simp) ?_
  simp (disch := omega) only [WA, ↓reduceIte, jA, jB, jD, jE, jF, jG, jH, jI, jJ, r.isRow.len]
  refine loop_rule (fun n e h' => ∃ (i : Nat) (vo : Value), e 1 = .int .i64 (k : Int) ∧ e 5 = vo ∧ e 8 = v ∧ e 9 = .int .i64 (l.length : Int) ∧ e 10 = .int .i64 (i : Int) ∧ i ≤ l.length ∧ n = l.length - i ∧ Sep h h' [ownA 3 (upL (l.take i) k) vo]) ?_ l.length _ _
    ⟨0, .slice none 0 0, rfl, rfl, rfl, rfl, rfl, Nat.zero_le _, rfl, (Sep.nil (.refl h)).nilA _⟩
  rintro n e h' ⟨i, vo, e1, e5, e8, e9, e10, hi, rfl, s⟩
  have r1 := r.mono s.ext
  simp (disch := omega) only [WA, ↓reduceIte, jA, jB, jD, jE, jF, jG, jH, jI, jJ, e9, e10]
  by_cases hlt : i < l.length
  · obtain ⟨x, hx⟩ := get_some hlt
    have q1 : (i : Int) < (l.length : Int) := by omega
    obtain ⟨x1, x2⟩ := row_int r1 hx
    have hxb := hb x (List.mem_of_getElem? hx)
    have hu := up_small hxb hk
    have hbits : IntKind.i64.bits = 64 := rfl
    have k0 : ¬ (k : Int) < 0 := by omega
    have m1 : min k 64 = k := by omega
    have k1 : (k : Int).toNat = k := rfl
    simp (disch := omega) only [WA, ↓reduceIte, jA, jB, jD, jE, jF, jG, jH, jI, jJ, e1, e5, e8, e10, q1, r1.isRow.ix, x1, k0, hbits, k1, m1, wrap_in]
    have sq := (Sep.rep0 (x := x * 2 ^ k) s (rep_int ⟨by omega, by omega⟩)).swap
    have hln : (upL (l.take i) k).length = i := by unfold upL; rw [List.length_map, List.length_take]; omega
    refine sep_append (y := x * 2 ^ k) sq rfl rfl te23 tk3 rfl (by decide) (by rw [hln]; simp only []; omega) fun v5 h5 s => ?_
    simp (disch := omega) only [WA, ↓reduceIte, jA, jB, jD, jE, jF, jG, jH, jI, jJ, e1, e8, e9, e10, wrap_in]
    refine ⟨_, by omega, i + 1, v5, rfl, by simp, by omega, rfl, ?_⟩
    have : upL (l.take (i + 1)) k = upL (l.take i) k ++ [x * 2 ^ k] := by
      unfold upL; rw [List.take_add_one, hx, List.map_append]; rfl
    rw [this]
    exact s
  · obtain rfl : i = l.length := by omega
    have q1 : ¬ (l.length : Int) < (l.length : Int) := by omega
    rw [List.take_length] at s
    have pl := s.row.isRow.plain
    simp (disch := omega) only [WA, ↓reduceIte, jA, jB, jD, jE, jF, jG, jH, jI, jJ, q1, e5, pl]
    exact hQ _ _ s
end Go.Proofs
end

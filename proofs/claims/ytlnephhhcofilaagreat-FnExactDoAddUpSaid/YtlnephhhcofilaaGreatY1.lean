/- Contracts of functions, facts of types, or the plain law behind one statement (own work): Y1. Conditions: those told in each theorem. -/
import Derived.Test.YtlnephhhcofilaaGreatMA
set_option linter.all false
set_option linter.unusedSimpArgs false
set_option linter.unusedVariables false
set_option maxRecDepth 4000
namespace Go.Proofs
open Go Go.V
structure Iv where
  low : Dy
  high : Dy
  deriving DecidableEq, Inhabited
instance : Rep Iv := Rep.iso (α := Dy × Dy) fun x => (x.low, x.high)
theorem Iv.sz : Rep.sz Iv = 4 := rfl
instance : Giv Iv := Giv.iso (α := Dy × Dy) (fun (x : Iv) => (x.low, x.high)) (⟨⟨(-7000000000000000101), (-7000000000000000101)⟩, ⟨(-7000000000000000101), (-7000000000000000101)⟩⟩ : Iv)
instance : Siz Iv := ⟨fun x => Siz.siz x.low + Siz.siz x.high⟩
theorem here_Iv {h : Heap} {x : Iv} {cs : List Value} (hr : Here h x cs) : cs = [.int .i64 x.low.n, .int .i64 x.low.k, .int .i64 x.high.n, .int .i64 x.high.k] ∧ inI64 x.low.n ∧ inI64 x.low.k ∧ inI64 x.high.n ∧ inI64 x.high.k := by
  have hrp : Here (α := Dy × Dy) h (x.low, x.high) _ := hr
  obtain ⟨c1, d1, rfl, q1, r1⟩ := here_pair hrp
  have q1p : Here (α := Int × Int) h (x.low.n, x.low.k) _ := q1
  obtain ⟨c2, d2, rfl, q2, r2⟩ := here_pair q1p
  obtain ⟨rfl, f3⟩ := here_int q2
  obtain ⟨rfl, f4⟩ := here_int r2
  have r1p : Here (α := Int × Int) h (x.high.n, x.high.k) _ := r1
  obtain ⟨c5, d5, rfl, q5, r5⟩ := here_pair r1p
  obtain ⟨rfl, f6⟩ := here_int q5
  obtain ⟨rfl, f7⟩ := here_int r5
  exact ⟨rfl, f3, f4, f6, f7⟩
theorem giv_Iv {h : Heap} {x : Iv} {cs : List Value} (hr : GivH h x cs) : cs = [.int .i64 x.low.n, .int .i64 x.low.k, .int .i64 x.high.n, .int .i64 x.high.k] ∧ inI64 x.low.n ∧ inI64 x.low.k ∧ inI64 x.high.n ∧ inI64 x.high.k := by
  have hrp : GivH (α := Dy × Dy) h (x.low, x.high) _ := hr
  obtain ⟨c1, d1, rfl, q1, r1⟩ := giv_pair hrp
  have q1p : GivH (α := Int × Int) h (x.low.n, x.low.k) _ := q1
  obtain ⟨c2, d2, rfl, q2, r2⟩ := giv_pair q1p
  obtain ⟨rfl, f3⟩ := giv_int q2
  obtain ⟨rfl, f4⟩ := giv_int r2
  have r1p : GivH (α := Int × Int) h (x.high.n, x.high.k) _ := r1
  obtain ⟨c5, d5, rfl, q5, r5⟩ := giv_pair r1p
  obtain ⟨rfl, f6⟩ := giv_int q5
  obtain ⟨rfl, f7⟩ := giv_int r5
  exact ⟨rfl, f3, f4, f6, f7⟩
theorem mk_Iv {h : Heap} {x : Iv} (h1 : inI64 x.low.n) (h2 : inI64 x.low.k) (h3 : inI64 x.high.n) (h4 : inI64 x.high.k) : Here h x [.int .i64 x.low.n, .int .i64 x.low.k, .int .i64 x.high.n, .int .i64 x.high.k] := (mk_pair (p := (x.low, x.high)) (mk_pair (p := (x.low.n, x.low.k)) (mk_int h1) (mk_int h2)) (mk_pair (p := (x.high.n, x.high.k)) (mk_int h3) (mk_int h4)))
theorem mkg_Iv {h : Heap} {x : Iv} (h1 : inI64 x.low.n) (h2 : inI64 x.low.k) (h3 : inI64 x.high.n) (h4 : inI64 x.high.k) : GivH h x [.int .i64 x.low.n, .int .i64 x.low.k, .int .i64 x.high.n, .int .i64 x.high.k] := (mkg_pair (p := (x.low, x.high)) (mkg_pair (p := (x.low.n, x.low.k)) (mkg_int h1) (mkg_int h2)) (mkg_pair (p := (x.high.n, x.high.k)) (mkg_int h3) (mkg_int h4)))
theorem at_Iv {h : Heap} {b off : Nat} {x : Iv} (hp : At h b off x) : getC h b off = some (.int .i64 x.low.n) ∧ getC h b (off + 1) = some (.int .i64 x.low.k) ∧ getC h b (off + 2) = some (.int .i64 x.high.n) ∧ getC h b (off + 3) = some (.int .i64 x.high.k) ∧ inI64 x.low.n ∧ inI64 x.low.k ∧ inI64 x.high.n ∧ inI64 x.high.k ∧ cellsAt h b off 4 = some [.int .i64 x.low.n, .int .i64 x.low.k, .int .i64 x.high.n, .int .i64 x.high.k] := by
  obtain ⟨cs, hc, hr⟩ := hp
  rw [Iv.sz] at hc
  obtain ⟨rfl, f1, f2, f3, f4⟩ := here_Iv hr
  exact ⟨cellsAt_getC hc 0 (by decide), cellsAt_getC hc 1 (by decide), cellsAt_getC hc 2 (by decide), cellsAt_getC hc 3 (by decide), f1, f2, f3, f4, hc⟩
theorem rep_Iv {h : Heap} {x : Iv} (h1 : inI64 x.low.n) (h2 : inI64 x.low.k) (h3 : inI64 x.high.n) (h4 : inI64 x.high.k) : Rep.rep h x [.int .i64 x.low.n, .int .i64 x.low.k, .int .i64 x.high.n, .int .i64 x.high.k] [] := by
  obtain ⟨fp, hr⟩ := mk_Iv (h := []) h1 h2 h3 h4
  obtain rfl : fp = [] := List.eq_nil_iff_forall_not_mem.2 fun b hb => by simpa using Rep.live hr b hb
  exact Rep.frame hr (by simp)
theorem zero_Iv (h : Heap) : Rep.rep h (⟨⟨0, 0⟩, ⟨0, 0⟩⟩ : Iv) [.int .i64 0, .int .i64 0, .int .i64 0, .int .i64 0] [] := (rep_pair0 (p := ((⟨0, 0⟩, ⟨0, 0⟩) : (Dy × Dy))) (rep_pair0 (p := ((0, 0) : (Int × Int))) (rep_int (h := h) ⟨by decide, by decide⟩) (rep_int (h := h) ⟨by decide, by decide⟩)) (rep_pair0 (p := ((0, 0) : (Int × Int))) (rep_int (h := h) ⟨by decide, by decide⟩) (rep_int (h := h) ⟨by decide, by decide⟩)))
end Go.Proofs

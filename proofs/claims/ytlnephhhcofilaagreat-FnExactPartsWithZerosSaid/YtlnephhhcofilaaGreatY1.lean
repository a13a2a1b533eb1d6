/- Contracts of functions, facts of types, or the plain law behind one statement (own work): Y1. Conditions: those told in each theorem. -/
import Derived.Test.YtlnephhhcofilaaGreatMA
set_option linter.all false
set_option linter.unusedSimpArgs false
set_option linter.unusedVariables false
set_option maxRecDepth 4000
namespace Go.Proofs
open Go Go.V
structure Iv where
  low : Dy
  high : Dy
  deriving DecidableEq, Inhabited
instance : Rep Iv := Rep.iso (α := Dy × Dy) fun x => (x.low, x.high)
theorem Iv.sz : Rep.sz Iv = 4 := rfl
instance : Giv Iv := Giv.iso (α := Dy × Dy) (fun (x : Iv) => (x.low, x.high)) (⟨⟨(-7000000000000000101), (-7000000000000000101)⟩, ⟨(-7000000000000000101), (-7000000000000000101)⟩⟩ : Iv)
instance : Siz Iv := ⟨fun x => Siz.siz x.low + Siz.siz x.high⟩
theorem here_Iv {h : Heap} {x : Iv} {cs : List Value} (hr : Here h x cs) : cs = [.int .i64 x.low.n, .int .i64 x.low.k, .int .i64 x.high.n, .int .i64 x.high.k] ∧ inI64 x.low.n ∧ inI64 x.low.k ∧ inI64 x.high.n ∧ inI64 x.high.k := by
  have hrp : Here (α := Dy × Dy) h (x.low, x.high) _ := hr
  obtain ⟨c1, d1, rfl, q1, r1⟩ := here_pair hrp
  have q1p : Here (α := Int × Int) h (x.low.n, x.low.k) _ := q1
  obtain ⟨c2, d2, rfl, q2, r2⟩ := here_pair q1p
  obtain ⟨rfl, f3⟩ := here_int q2
  obtain ⟨rfl, f4⟩ := here_int r2
  have r1p : Here (α := Int × Int) h (x.high.n, x.high.k) _ := r1
  obtain ⟨c5, d5, rfl, q5, r5⟩ := here_pair r1p
  obtain ⟨rfl, f6⟩ := here_int q5
  obtain ⟨rfl, f7⟩ := here_int r5
  exact ⟨rfl, f3, f4, f6, f7⟩
theorem mk_Iv {h : Heap} {x : Iv} (h1 : inI64 x.low.n) (h2 : inI64 x.low.k) (h3 : inI64 x.high.n) (h4 : inI64 x.high.k) : Here h x [.int .i64 x.low.n, .int .i64 x.low.k, .int .i64 x.high.n, .int .i64 x.high.k] := (mk_pair (p := (x.low, x.high)) (mk_pair (p := (x.low.n, x.low.k)) (mk_int h1) (mk_int h2)) (mk_pair (p := (x.high.n, x.high.k)) (mk_int h3) (mk_int h4)))
theorem rep_Iv {h : Heap} {x : Iv} (h1 : inI64 x.low.n) (h2 : inI64 x.low.k) (h3 : inI64 x.high.n) (h4 : inI64 x.high.k) : Rep.rep h x [.int .i64 x.low.n, .int .i64 x.low.k, .int .i64 x.high.n, .int .i64 x.high.k] [] := by
  obtain ⟨fp, hr⟩ := mk_Iv (h := []) h1 h2 h3 h4
  obtain rfl : fp = [] := List.eq_nil_iff_forall_not_mem.2 fun b hb => by simpa using Rep.live hr b hb
  exact Rep.frame hr (by simp)
end Go.Proofs

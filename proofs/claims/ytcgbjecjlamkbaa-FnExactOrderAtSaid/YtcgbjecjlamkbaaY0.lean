/- Contracts of functions, facts of types, or the plain law behind one statement (own work): Y0. Conditions: those told in each theorem. -/
import Derived.Test.YtcgbjecjlamkbaaC0
set_option linter.all false
set_option linter.unusedSimpArgs false
set_option linter.unusedVariables false
set_option maxRecDepth 4000
namespace Go.Proofs
open Go Go.V
structure Dy where
  n : Int
  k : Int
  deriving DecidableEq, Inhabited
instance : Rep Dy := Rep.iso (α := Int × Int) fun x => (x.n, x.k)
theorem Dy.sz : Rep.sz Dy = 2 := rfl
instance : Giv Dy := Giv.iso (α := Int × Int) (fun (x : Dy) => (x.n, x.k)) (⟨(-7000000000000000101), (-7000000000000000101)⟩ : Dy)
instance : Siz Dy := ⟨fun x => Siz.siz x.n + Siz.siz x.k⟩
theorem here_Dy {h : Heap} {x : Dy} {cs : List Value} (hr : Here h x cs) : cs = [.int .i64 x.n, .int .i64 x.k] ∧ inI64 x.n ∧ inI64 x.k := by
  have hrp : Here (α := Int × Int) h (x.n, x.k) _ := hr
  obtain ⟨c1, d1, rfl, q1, r1⟩ := here_pair hrp
  obtain ⟨rfl, f2⟩ := here_int q1
  obtain ⟨rfl, f3⟩ := here_int r1
  exact ⟨rfl, f2, f3⟩
theorem giv_Dy {h : Heap} {x : Dy} {cs : List Value} (hr : GivH h x cs) : cs = [.int .i64 x.n, .int .i64 x.k] ∧ inI64 x.n ∧ inI64 x.k := by
  have hrp : GivH (α := Int × Int) h (x.n, x.k) _ := hr
  obtain ⟨c1, d1, rfl, q1, r1⟩ := giv_pair hrp
  obtain ⟨rfl, f2⟩ := giv_int q1
  obtain ⟨rfl, f3⟩ := giv_int r1
  exact ⟨rfl, f2, f3⟩
theorem mk_Dy {h : Heap} {x : Dy} (h1 : inI64 x.n) (h2 : inI64 x.k) : Here h x [.int .i64 x.n, .int .i64 x.k] := (mk_pair (p := (x.n, x.k)) (mk_int h1) (mk_int h2))
theorem mkg_Dy {h : Heap} {x : Dy} (h1 : inI64 x.n) (h2 : inI64 x.k) : GivH h x [.int .i64 x.n, .int .i64 x.k] := (mkg_pair (p := (x.n, x.k)) (mkg_int h1) (mkg_int h2))
theorem at_Dy {h : Heap} {b off : Nat} {x : Dy} (hp : At h b off x) : getC h b off = some (.int .i64 x.n) ∧ getC h b (off + 1) = some (.int .i64 x.k) ∧ inI64 x.n ∧ inI64 x.k ∧ cellsAt h b off 2 = some [.int .i64 x.n, .int .i64 x.k] := by
  obtain ⟨cs, hc, hr⟩ := hp
  rw [Dy.sz] at hc
  obtain ⟨rfl, f1, f2⟩ := here_Dy hr
  exact ⟨cellsAt_getC hc 0 (by decide), cellsAt_getC hc 1 (by decide), f1, f2, hc⟩
theorem rep_Dy {h : Heap} {x : Dy} (h1 : inI64 x.n) (h2 : inI64 x.k) : Rep.rep h x [.int .i64 x.n, .int .i64 x.k] [] := by
  obtain ⟨fp, hr⟩ := mk_Dy (h := []) h1 h2
  obtain rfl : fp = [] := List.eq_nil_iff_forall_not_mem.2 fun b hb => by simpa using Rep.live hr b hb
  exact Rep.frame hr (by simp)
theorem zero_Dy (h : Heap) : Rep.rep h (⟨0, 0⟩ : Dy) [.int .i64 0, .int .i64 0] [] := (rep_pair0 (p := ((0, 0) : (Int × Int))) (rep_int (h := h) ⟨by decide, by decide⟩) (rep_int (h := h) ⟨by decide, by decide⟩))
theorem toDyadic_c {x : Dy} {b : Bool} {cs : List Value} {h : Heap} {Q : Value → Heap → Prop} (hx : Here h x cs) (hn : Siz.siz x ≤ 1000000)
    (hQ : ∀ cs' h', Sep h h' [givA b x cs'] → Q (.agg cs'.toArray) h') : CallsV Try.prog 7 [.agg cs.toArray] h Q := by
  have hs : Siz.siz x = Siz.siz x.n + Siz.siz x.k := rfl
  obtain ⟨rfl, vf1, vf2⟩ := here_Dy hx
  refine CallsV.start Try.func7 rfl (by rw [Try.results7]) (by kernel_rfl) (by rw [Try.ntmps7]; simp) ?_
  simp (disch := omega) only [VW, VY, VZ, VA, VB, VC, VE, TY, ↓reduceIte, Nat.reduceEqDiff, Nat.reduceAdd, Nat.reduceMul, Nat.reduceSub, Nat.reduceLeDiff, List.length_cons, List.length_nil, List.length_append, List.append_assoc, List.take_succ_cons, List.take_zero, List.drop_succ_cons, List.drop_zero, List.set_cons_zero, List.set_cons_succ, true_or, or_true, and_self, Bool.false_eq_true, Nat.le_refl, Option.bind_some, Option.map_some, Option.getD_some, Option.isSome_some, List.map_cons, List.map_nil, List.cons_append, List.nil_append, List.append_nil, List.getElem?_cons_zero, List.getElem?_cons_succ, eq_self, Int.reduceLT, Int.reduceLE, Int.reduceNeg, Int.reduceEq]
  exact hQ [.int .i64 x.n, .int .i64 x.k] _ ((Sep.nil (.app _ _)).flat (rep_Dy vf1 vf2))
end Go.Proofs

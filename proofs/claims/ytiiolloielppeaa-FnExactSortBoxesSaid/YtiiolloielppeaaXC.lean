/- Contracts of functions, facts of types, or the plain law behind one statement (own work): XC. Conditions: those told in each theorem. -/
import Derived.Test.YtiiolloielppeaaXB
import Derived.Shelf.Spec.SlicesGrow
set_option linter.all false
set_option linter.unusedSimpArgs false
set_option linter.unusedVariables false
set_option maxRecDepth 4000
namespace Go.Proofs
open Go Go.V Go.RowKit
def growI_ren : Go.Shelf.Ren := ⟨fun | 4 => 128 | n => n, fun | 22 => 34 | 25 => 3 | n => n, fun | n => n⟩
theorem growI : Go.Proofs.Lays8.n4 Try.prog growI_ren := {
  mixed := by kernel_rfl
  f4 := ⟨Try.f128.name, by decide, Try.func128.trans (congrArg some (by kernel_rfl))⟩
  t0 := Try.underlying0
  a0 := Try.isAgg0
  z0 := Try.sizeOf0
  v0 := Try.zeroValue0
  t3 := Try.underlying3
  a3 := Try.isAgg3
  z3 := Try.sizeOf3
  v3 := Try.zeroValue3
  t4 := Try.underlying4
  a4 := Try.isAgg4
  z4 := Try.sizeOf4
  v4 := Try.zeroValue4
  t9 := Try.underlying9
  a9 := Try.isAgg9
  z9 := Try.sizeOf9
  v9 := Try.zeroValue9
  t20 := Try.underlying20
  a20 := Try.isAgg20
  z20 := Try.sizeOf20
  v20 := Try.zeroValue20
  t22 := Try.underlying34
  a22 := Try.isAgg34
  z22 := Try.sizeOf34
  v22 := Try.zeroValue34 }
def growB_ren : Go.Shelf.Ren := ⟨fun | 4 => 85 | n => n, fun | 22 => 28 | 25 => 42 | n => n, fun | n => n⟩
theorem growB : Go.Proofs.Lays8.n4 Try.prog growB_ren := {
  mixed := by kernel_rfl
  f4 := ⟨Try.f85.name, by decide, Try.func85.trans (congrArg some (by kernel_rfl))⟩
  t0 := Try.underlying0
  a0 := Try.isAgg0
  z0 := Try.sizeOf0
  v0 := Try.zeroValue0
  t3 := Try.underlying3
  a3 := Try.isAgg3
  z3 := Try.sizeOf3
  v3 := Try.zeroValue3
  t4 := Try.underlying4
  a4 := Try.isAgg4
  z4 := Try.sizeOf4
  v4 := Try.zeroValue4
  t9 := Try.underlying9
  a9 := Try.isAgg9
  z9 := Try.sizeOf9
  v9 := Try.zeroValue9
  t20 := Try.underlying20
  a20 := Try.isAgg20
  z20 := Try.sizeOf20
  v20 := Try.zeroValue20
  t22 := Try.underlying28
  a22 := Try.isAgg28
  z22 := Try.sizeOf28
  v22 := Try.zeroValue28 }
theorem grow_nil {f : FuncId} {el : TypeId} {k : TK} {n : Nat} {h : Heap} {Q : Value → Heap → Prop} (hk : tk Try.prog el = some k) (hn : 0 < n)
    (hc : ∀ w, Calls Try.prog f #[.slice none 0 0, .int .i64 (n : Int)] w fun e w' => e = .returned (.slice (some ⟨w.heap.size, 0, none⟩) 0 (grownCap w n 0 el)) ∧
      w' = w.drew.alloc (.cells (rep n k.zero ++ rep (grownCap w n 0 el - n) k.zero).toArray el))
    (hQ : Q (.slice (some ⟨h.length, 0, none⟩) 0 n) (h ++ [some ⟨rep n k.zero, el, false, false⟩])) : CallsV Try.prog f [.slice none 0 0, .int .i64 (n : Int)] h Q := by
  intro B0 ι w us r hu
  obtain rfl : us = [.slice none 0 0, .int .i64 (n : Int)] := by
    cases hu with
    | cons h1 h2 =>
      cases h2 with
      | cons h2 h3 => cases h3; rw [h1.closed_eq rfl, h2.closed_eq rfl]
  refine (hc w).mono ?_
  rintro e w' ⟨rfl, rfl⟩
  obtain ⟨_, _, _, _, _, _, _, _, _, hcl, hzl, _⟩ := tk_info hk
  have hg := grownCap_ge w n 0 el
  have hl : (rep n k.zero).length = n * k.size := by rw [rep_length, hzl]
  obtain ⟨_, h2⟩ := r.drew.grown (cs := rep n k.zero) (us := rep n k.zero) (z := k.zero) hk (.closed (closed_rep hcl)) hzl hl hn hg
  refine ⟨.slice (some ⟨h.length, 0, none⟩) 0 n, _, _, ι ++ [⟨w.heap.size, 0, grownCap w n 0 el - n⟩], rfl, hQ, ?_, h2, List.prefix_append _ _, ((Below.refl B0 w).drew).trans (Below.of_alloc r.drew.base _)⟩
  refine .one (.flat (.base ?_))
  have := BR.slice (ι := ι ++ [⟨w.heap.size, 0, grownCap w n 0 el - n⟩]) (b := h.length) (off := 0) (len := 0) (cap := n) (p := ⟨w.heap.size, 0, grownCap w n 0 el - n⟩) (by rw [← r.len]; simp) hn
  have e : n + (grownCap w n 0 el - n) = grownCap w n 0 el := by omega
  simpa [e] using this
end Go.Proofs

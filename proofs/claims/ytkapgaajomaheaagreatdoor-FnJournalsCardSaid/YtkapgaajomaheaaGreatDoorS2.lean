/- Contracts of functions, facts of types, or the plain law behind one statement (own work): S2. Conditions: those told in each theorem. -/
import Derived.Test.YtkapgaajomaheaaGreatDoorJP
import Derived.Test.YtkapgaajomaheaaGreatDoorS1
import Derived.Laws.Externs
import Derived.Lib.Bytealg
set_option linter.all false
set_option linter.unusedSimpArgs false
set_option linter.unusedVariables false
set_option maxRecDepth 4000
namespace Go.Proofs
open Go Go.V

theorem index_cases (l : List UInt8) (c : UInt8) : (Lib.indexByte l c = -1 ∧ c ∉ l) ∨ ∃ i : Nat, Lib.indexByte l c = (i : Int) ∧ i < l.length ∧ l = l.take i ++ c :: l.drop (i + 1) ∧ c ∉ l.take i := by
  induction l with
  | nil => exact .inl ⟨rfl, by simp⟩
  | cons b l ih =>
    simp only [Lib.indexByte]
    by_cases h : b = c
    · subst h
      exact .inr ⟨0, by simp, by simp, by simp, by simp⟩
    · have hb : (b == c) = false := by simp [h]
      rw [hb]
      rcases ih with ⟨h1, h2⟩ | ⟨i, h1, h2, h3, h4⟩
      · exact .inl ⟨by rw [h1]; rfl, by simp [h2] <;> exact fun k => h k.symm⟩
      · refine .inr ⟨i + 1, ?_, by simp; omega, ?_, ?_⟩
        · rw [h1]
          have : ((i : Int) == -1) = false := beq_eq_false_iff_ne.2 (by omega)
          rw [this]; simp
        · simp only [List.take_succ_cons, List.drop_succ_cons, List.cons_append]
          rw [← h3]
        · simp [h4] <;> exact fun k => h k.symm
theorem cutL_index {l : List UInt8} : (Lib.indexByte l 10 = -1 ∧ cutL l = none) ∨ ∃ i : Nat, Lib.indexByte l 10 = (i : Int) ∧ i < l.length ∧ cutL l = some (l.take i, l.drop (i + 1)) := by
  rcases index_cases l 10 with ⟨h1, h2⟩ | ⟨i, h1, h2, h3, h4⟩
  · exact .inl ⟨h1, cutL_none.2 h2⟩
  · refine .inr ⟨i, h1, h2, ?_⟩
    conv => lhs; rw [h3]
    exact cutL_app _ h4
theorem splitL_none {l : List UInt8} {c : UInt8} (h : Lib.indexByte l c = -1) : splitL c l = [l] := by
  rcases index_cases l c with ⟨_, h2⟩ | ⟨i, h1, _⟩
  · exact splitL_no h2
  · omega
theorem splitL_at {l : List UInt8} {c : UInt8} {i : Nat} (h : Lib.indexByte l c = (i : Int)) : i < l.length ∧ splitL c l = l.take i :: splitL c (l.drop (i + 1)) := by
  rcases index_cases l c with ⟨h1, _⟩ | ⟨j, h1, h2, h3, h4⟩
  · omega
  · obtain rfl : i = j := by omega
    refine ⟨h2, ?_⟩
    conv => lhs; rw [h3]
    exact splitL_app _ h4
theorem splitL_count (c : UInt8) : ∀ l : List UInt8, (splitL c l).length = Lib.countByte l c + 1
  | [] => rfl
  | x :: l => by
    have ih := splitL_count c l
    unfold Lib.countByte at ih ⊢
    simp only [splitL]
    by_cases h : x = c
    · subst h
      rw [if_pos rfl, List.length_cons, ih, List.count_cons_self]
    · rw [if_neg h, List.count_cons_of_ne (by simpa using h)]
      cases hs : splitL c l with
      | nil => exact absurd hs (splitL_ne _ _)
      | cons p r => rw [hs] at ih; simpa using ih
theorem pure_indexByte (s : ByteArray) (c : UInt8) : PureCall Tryz.prog 103 [.string s, .int .u8 c.toNat] (.int .i64 (Lib.indexByte s.data.toList c)) := by
  refine ⟨rfl, rfl, fun w => ?_⟩
  rw [run_callFunc_extern Tryz.func103 (by kernel_rfl) (by kernel_rfl) (by kernel_rfl) (e := Extern.BytealgIndexByte.indexByte) (by kernel_rfl)]
  have := Lib.run_indexByteString (P := Tryz.prog) s (c.toNat : Int) w
  have e : (c.toNat : Int).toNat.toUInt8 = c := by simp
  rw [e] at this
  have hh : (Extern.BytealgIndexByte.indexByte [Value.string s, Value.int IntKind.u8 c.toNat].toArray).run Tryz.prog w = _ := this
  rw [hh]; rfl
theorem pure_countByte (s : ByteArray) (c : UInt8) : PureCall Tryz.prog 118 [.string s, .int .u8 c.toNat] (.int .i64 (Lib.countByte s.data.toList c)) := by
  refine ⟨rfl, rfl, fun w => ?_⟩
  rw [run_callFunc_extern Tryz.func118 (by kernel_rfl) (by kernel_rfl) (by kernel_rfl) (e := Extern.BytealgCount.count) (by kernel_rfl)]
  have := Lib.run_countString (P := Tryz.prog) s (c.toNat : Int) w
  have e : (c.toNat : Int).toNat.toUInt8 = c := by simp
  rw [e] at this
  have hh : (Extern.BytealgCount.count [Value.string s, Value.int IntKind.u8 c.toNat].toArray).run Tryz.prog w = _ := this
  rw [hh]; rfl
end Go.Proofs

/- Contracts of functions, facts of types, or the plain law behind one statement (own work): TF. Conditions: those told in each theorem. -/
import Derived.Test.YtlnephhhcofilaaGreatVB
import Derived.Test.YtlnephhhcofilaaGreatProg
import Derived.KernelRfl
set_option linter.all false
namespace Go.Proofs
open Go Go.V
instance : Laid Tryz.prog := ⟨fun _ => True⟩
theorem tk3 : tk Tryz.prog 3 = some ⟨1, 8, [.int .i64 0], false, 2, false⟩ := by kernel_rfl
theorem ti3 : tInt Tryz.prog 3 = some .i64 := by kernel_rfl
theorem tk4 : tk Tryz.prog 4 = some ⟨1, 1, [.bool false], false, 1, false⟩ := by kernel_rfl
theorem tk9 : tk Tryz.prog 9 = some ⟨1, 16, [.string ⟨#[]⟩], false, 3, false⟩ := by kernel_rfl
theorem te9 : tElem Tryz.prog 9 = none := by kernel_rfl
theorem tk22 : tk Tryz.prog 22 = some ⟨1, 24, [.slice none 0 0], false, 5, false⟩ := by kernel_rfl
theorem te22 : tElem Tryz.prog 22 = some 54 := by kernel_rfl
theorem tk23 : tk Tryz.prog 23 = some ⟨1, 24, [.slice none 0 0], false, 5, false⟩ := by kernel_rfl
theorem te23 : tElem Tryz.prog 23 = some 3 := by kernel_rfl
theorem tk25 : tk Tryz.prog 25 = some ⟨3, 56, [.int .i64 0, .slice none 0 0, .slice none 0 0], true, 6, true⟩ := by kernel_rfl
theorem tf25x0 : tField Tryz.prog 25 0 = some (0, 3) := by kernel_rfl
theorem tf25x1 : tField Tryz.prog 25 1 = some (1, 23) := by kernel_rfl
theorem tf25x2 : tField Tryz.prog 25 2 = some (2, 23) := by kernel_rfl
theorem tk30 : tk Tryz.prog 30 = some ⟨1, 24, [.slice none 0 0], false, 5, false⟩ := by kernel_rfl
theorem te30 : tElem Tryz.prog 30 = some 56 := by kernel_rfl
theorem tk32 : tk Tryz.prog 32 = some ⟨3, 56, [.int .i64 0, .slice none 0 0, .slice none 0 0], true, 6, true⟩ := by kernel_rfl
theorem tf32x0 : tField Tryz.prog 32 0 = some (0, 3) := by kernel_rfl
theorem tf32x1 : tField Tryz.prog 32 1 = some (1, 23) := by kernel_rfl
theorem tf32x2 : tField Tryz.prog 32 2 = some (2, 23) := by kernel_rfl
theorem tk37 : tk Tryz.prog 37 = some ⟨1, 24, [.slice none 0 0], false, 5, false⟩ := by kernel_rfl
theorem te37 : tElem Tryz.prog 37 = some 25 := by kernel_rfl
theorem tk40 : tk Tryz.prog 40 = some ⟨1, 24, [.slice none 0 0], false, 5, false⟩ := by kernel_rfl
theorem te40 : tElem Tryz.prog 40 = some 32 := by kernel_rfl
theorem tk54 : tk Tryz.prog 54 = some ⟨1, 24, [.slice none 0 0], false, 5, false⟩ := by kernel_rfl
theorem te54 : tElem Tryz.prog 54 = some 77 := by kernel_rfl
theorem tk56 : tk Tryz.prog 56 = some ⟨1, 24, [.slice none 0 0], false, 5, false⟩ := by kernel_rfl
theorem te56 : tElem Tryz.prog 56 = some 59 := by kernel_rfl
theorem tk59 : tk Tryz.prog 59 = some ⟨4, 32, [.int .i64 0, .int .i64 0, .int .i64 0, .int .i64 0], true, 6, true⟩ := by kernel_rfl
theorem tf59x0 : tField Tryz.prog 59 0 = some (0, 3) := by kernel_rfl
theorem tf59x1 : tField Tryz.prog 59 1 = some (1, 3) := by kernel_rfl
theorem tf59x2 : tField Tryz.prog 59 2 = some (2, 3) := by kernel_rfl
theorem tf59x3 : tField Tryz.prog 59 3 = some (3, 3) := by kernel_rfl
theorem tk63 : tk Tryz.prog 63 = some ⟨1, 8, [.pointer none], false, 4, false⟩ := by kernel_rfl
theorem tk71 : tk Tryz.prog 71 = some ⟨1, 8, [.nilFunc], false, 8, false⟩ := by kernel_rfl
theorem tk77 : tk Tryz.prog 77 = some ⟨4, 32, [.int .i64 0, .int .i64 0, .int .i64 0, .int .i64 0], true, 6, true⟩ := by kernel_rfl
theorem tf77x0 : tField Tryz.prog 77 0 = some (0, 3) := by kernel_rfl
theorem tf77x1 : tField Tryz.prog 77 1 = some (1, 3) := by kernel_rfl
theorem tf77x2 : tField Tryz.prog 77 2 = some (2, 3) := by kernel_rfl
theorem tf77x3 : tField Tryz.prog 77 3 = some (3, 3) := by kernel_rfl
theorem tk94 : tk Tryz.prog 94 = some ⟨1, 24, [.slice none 0 0], false, 5, false⟩ := by kernel_rfl
theorem te94 : tElem Tryz.prog 94 = some 23 := by kernel_rfl
theorem tk97 : tk Tryz.prog 97 = some ⟨2, 16, [.int .i64 0, .int .i64 0], true, 6, true⟩ := by kernel_rfl
theorem tf97x0 : tField Tryz.prog 97 0 = some (0, 3) := by kernel_rfl
theorem tf97x1 : tField Tryz.prog 97 1 = some (1, 3) := by kernel_rfl
theorem tk99 : tk Tryz.prog 99 = some ⟨1, 24, [.slice none 0 0], false, 5, false⟩ := by kernel_rfl
theorem te99 : tElem Tryz.prog 99 = some 102 := by kernel_rfl
theorem tk102 : tk Tryz.prog 102 = some ⟨7, 56, [.int .i64 0, .int .i64 0, .int .i64 0, .int .i64 0, .int .i64 0, .int .i64 0, .int .i64 0], true, 6, true⟩ := by kernel_rfl
theorem tf102x0 : tField Tryz.prog 102 0 = some (0, 3) := by kernel_rfl
theorem tf102x1 : tField Tryz.prog 102 1 = some (1, 97) := by kernel_rfl
theorem tf102x2 : tField Tryz.prog 102 2 = some (3, 97) := by kernel_rfl
theorem tf102x3 : tField Tryz.prog 102 3 = some (5, 97) := by kernel_rfl
theorem tk104 : tk Tryz.prog 104 = some ⟨1, 24, [.slice none 0 0], false, 5, false⟩ := by kernel_rfl
theorem te104 : tElem Tryz.prog 104 = some 122 := by kernel_rfl
theorem tk106 : tk Tryz.prog 106 = some ⟨1, 8, [.int .u64 0], false, 2, false⟩ := by kernel_rfl
theorem ti106 : tInt Tryz.prog 106 = some .u64 := by kernel_rfl
theorem tk122 : tk Tryz.prog 122 = some ⟨4, 32, [.int .i64 0, .int .i64 0, .int .i64 0, .int .i64 0], true, 6, true⟩ := by kernel_rfl
theorem tf122x0 : tField Tryz.prog 122 0 = some (0, 97) := by kernel_rfl
theorem tf122x1 : tField Tryz.prog 122 1 = some (2, 97) := by kernel_rfl
theorem tk124 : tk Tryz.prog 124 = some ⟨1, 24, [.slice none 0 0], false, 5, false⟩ := by kernel_rfl
theorem te124 : tElem Tryz.prog 124 = some 97 := by kernel_rfl
theorem tk126 : tk Tryz.prog 126 = some ⟨3, 24, [.int .i64 0, .int .i64 0, .int .i64 0], true, 9, false⟩ := by kernel_rfl
theorem ta126 : tArr Tryz.prog 126 = some (3, 3) := by kernel_rfl
theorem tk128 : tk Tryz.prog 128 = some ⟨1, 8, [.int .u64 0], false, 2, false⟩ := by kernel_rfl
theorem ti128 : tInt Tryz.prog 128 = some .u64 := by kernel_rfl
theorem tk130 : tk Tryz.prog 130 = some ⟨3, 24, [.bool false, .int .u64 0, .int .u64 0], true, 6, true⟩ := by kernel_rfl
theorem tf130x0 : tField Tryz.prog 130 0 = some (0, 4) := by kernel_rfl
theorem tf130x1 : tField Tryz.prog 130 1 = some (1, 128) := by kernel_rfl
theorem tf130x2 : tField Tryz.prog 130 2 = some (2, 128) := by kernel_rfl
theorem tk147 : tk Tryz.prog 147 = some ⟨1, 8, [.pointer none], false, 4, false⟩ := by kernel_rfl
theorem tk149 : tk Tryz.prog 149 = some ⟨1, 1, [.bool false], true, 6, true⟩ := by kernel_rfl
theorem tf149x0 : tField Tryz.prog 149 0 = some (0, 4) := by kernel_rfl
theorem TY : tk Tryz.prog 3 = some ⟨1, 8, [.int .i64 0], false, 2, false⟩ ∧
  tInt Tryz.prog 3 = some .i64 ∧
  tk Tryz.prog 4 = some ⟨1, 1, [.bool false], false, 1, false⟩ ∧
  tk Tryz.prog 9 = some ⟨1, 16, [.string ⟨#[]⟩], false, 3, false⟩ ∧
  tElem Tryz.prog 9 = none ∧
  tk Tryz.prog 22 = some ⟨1, 24, [.slice none 0 0], false, 5, false⟩ ∧
  tElem Tryz.prog 22 = some 54 ∧
  tk Tryz.prog 23 = some ⟨1, 24, [.slice none 0 0], false, 5, false⟩ ∧
  tElem Tryz.prog 23 = some 3 ∧
  tk Tryz.prog 25 = some ⟨3, 56, [.int .i64 0, .slice none 0 0, .slice none 0 0], true, 6, true⟩ ∧
  tField Tryz.prog 25 0 = some (0, 3) ∧
  tField Tryz.prog 25 1 = some (1, 23) ∧
  tField Tryz.prog 25 2 = some (2, 23) ∧
  tk Tryz.prog 30 = some ⟨1, 24, [.slice none 0 0], false, 5, false⟩ ∧
  tElem Tryz.prog 30 = some 56 ∧
  tk Tryz.prog 32 = some ⟨3, 56, [.int .i64 0, .slice none 0 0, .slice none 0 0], true, 6, true⟩ ∧
  tField Tryz.prog 32 0 = some (0, 3) ∧
  tField Tryz.prog 32 1 = some (1, 23) ∧
  tField Tryz.prog 32 2 = some (2, 23) ∧
  tk Tryz.prog 37 = some ⟨1, 24, [.slice none 0 0], false, 5, false⟩ ∧
  tElem Tryz.prog 37 = some 25 ∧
  tk Tryz.prog 40 = some ⟨1, 24, [.slice none 0 0], false, 5, false⟩ ∧
  tElem Tryz.prog 40 = some 32 ∧
  tk Tryz.prog 54 = some ⟨1, 24, [.slice none 0 0], false, 5, false⟩ ∧
  tElem Tryz.prog 54 = some 77 ∧
  tk Tryz.prog 56 = some ⟨1, 24, [.slice none 0 0], false, 5, false⟩ ∧
  tElem Tryz.prog 56 = some 59 ∧
  tk Tryz.prog 59 = some ⟨4, 32, [.int .i64 0, .int .i64 0, .int .i64 0, .int .i64 0], true, 6, true⟩ ∧
  tField Tryz.prog 59 0 = some (0, 3) ∧
  tField Tryz.prog 59 1 = some (1, 3) ∧
  tField Tryz.prog 59 2 = some (2, 3) ∧
  tField Tryz.prog 59 3 = some (3, 3) ∧
  tk Tryz.prog 63 = some ⟨1, 8, [.pointer none], false, 4, false⟩ ∧
  tk Tryz.prog 71 = some ⟨1, 8, [.nilFunc], false, 8, false⟩ ∧
  tk Tryz.prog 77 = some ⟨4, 32, [.int .i64 0, .int .i64 0, .int .i64 0, .int .i64 0], true, 6, true⟩ ∧
  tField Tryz.prog 77 0 = some (0, 3) ∧
  tField Tryz.prog 77 1 = some (1, 3) ∧
  tField Tryz.prog 77 2 = some (2, 3) ∧
  tField Tryz.prog 77 3 = some (3, 3) ∧
  tk Tryz.prog 94 = some ⟨1, 24, [.slice none 0 0], false, 5, false⟩ ∧
  tElem Tryz.prog 94 = some 23 ∧
  tk Tryz.prog 97 = some ⟨2, 16, [.int .i64 0, .int .i64 0], true, 6, true⟩ ∧
  tField Tryz.prog 97 0 = some (0, 3) ∧
  tField Tryz.prog 97 1 = some (1, 3) ∧
  tk Tryz.prog 99 = some ⟨1, 24, [.slice none 0 0], false, 5, false⟩ ∧
  tElem Tryz.prog 99 = some 102 ∧
  tk Tryz.prog 102 = some ⟨7, 56, [.int .i64 0, .int .i64 0, .int .i64 0, .int .i64 0, .int .i64 0, .int .i64 0, .int .i64 0], true, 6, true⟩ ∧
  tField Tryz.prog 102 0 = some (0, 3) ∧
  tField Tryz.prog 102 1 = some (1, 97) ∧
  tField Tryz.prog 102 2 = some (3, 97) ∧
  tField Tryz.prog 102 3 = some (5, 97) ∧
  tk Tryz.prog 104 = some ⟨1, 24, [.slice none 0 0], false, 5, false⟩ ∧
  tElem Tryz.prog 104 = some 122 ∧
  tk Tryz.prog 106 = some ⟨1, 8, [.int .u64 0], false, 2, false⟩ ∧
  tInt Tryz.prog 106 = some .u64 ∧
  tk Tryz.prog 122 = some ⟨4, 32, [.int .i64 0, .int .i64 0, .int .i64 0, .int .i64 0], true, 6, true⟩ ∧
  tField Tryz.prog 122 0 = some (0, 97) ∧
  tField Tryz.prog 122 1 = some (2, 97) ∧
  tk Tryz.prog 124 = some ⟨1, 24, [.slice none 0 0], false, 5, false⟩ ∧
  tElem Tryz.prog 124 = some 97 ∧
  tk Tryz.prog 126 = some ⟨3, 24, [.int .i64 0, .int .i64 0, .int .i64 0], true, 9, false⟩ ∧
  tArr Tryz.prog 126 = some (3, 3) ∧
  tk Tryz.prog 128 = some ⟨1, 8, [.int .u64 0], false, 2, false⟩ ∧
  tInt Tryz.prog 128 = some .u64 ∧
  tk Tryz.prog 130 = some ⟨3, 24, [.bool false, .int .u64 0, .int .u64 0], true, 6, true⟩ ∧
  tField Tryz.prog 130 0 = some (0, 4) ∧
  tField Tryz.prog 130 1 = some (1, 128) ∧
  tField Tryz.prog 130 2 = some (2, 128) ∧
  tk Tryz.prog 147 = some ⟨1, 8, [.pointer none], false, 4, false⟩ ∧
  tk Tryz.prog 149 = some ⟨1, 1, [.bool false], true, 6, true⟩ ∧
  tField Tryz.prog 149 0 = some (0, 4) := And.intro tk3 (And.intro ti3 (And.intro tk4 (And.intro tk9 (And.intro te9 (And.intro tk22 (And.intro te22 (And.intro tk23 (And.intro te23 (And.intro tk25 (And.intro tf25x0 (And.intro tf25x1 (And.intro tf25x2 (And.intro tk30 (And.intro te30 (And.intro tk32 (And.intro tf32x0 (And.intro tf32x1 (And.intro tf32x2 (And.intro tk37 (And.intro te37 (And.intro tk40 (And.intro te40 (And.intro tk54 (And.intro te54 (And.intro tk56 (And.intro te56 (And.intro tk59 (And.intro tf59x0 (And.intro tf59x1 (And.intro tf59x2 (And.intro tf59x3 (And.intro tk63 (And.intro tk71 (And.intro tk77 (And.intro tf77x0 (And.intro tf77x1 (And.intro tf77x2 (And.intro tf77x3 (And.intro tk94 (And.intro te94 (And.intro tk97 (And.intro tf97x0 (And.intro tf97x1 (And.intro tk99 (And.intro te99 (And.intro tk102 (And.intro tf102x0 (And.intro tf102x1 (And.intro tf102x2 (And.intro tf102x3 (And.intro tk104 (And.intro te104 (And.intro tk106 (And.intro ti106 (And.intro tk122 (And.intro tf122x0 (And.intro tf122x1 (And.intro tk124 (And.intro te124 (And.intro tk126 (And.intro ta126 (And.intro tk128 (And.intro ti128 (And.intro tk130 (And.intro tf130x0 (And.intro tf130x1 (And.intro tf130x2 (And.intro tk147 (And.intro tk149 (tf149x0))))))))))))))))))))))))))))))))))))))))))))))))))))))))))))))))))))))
def WA := And.intro VW (And.intro VY (And.intro VZ (And.intro VA (And.intro VB (And.intro VC (And.intro VE (And.intro TY VL)))))))
theorem WLF : (∀ {α β : Type} {f : α → Option β} {a : α} {l : List α}, List.filterMap f (a :: l) = match f a with | none => List.filterMap f l | some b => b :: List.filterMap f l) ∧ (∀ {α β : Type} {f : α → Option β}, List.filterMap f [] = []) ∧ (∀ {α : Type} {a : α} {l : List α}, (a :: l)[0]? = some a) ∧ ∀ {α : Type} {a : α} {i : Nat} {l : List α}, (a :: l)[i + 1]? = l[i]? := ⟨List.filterMap_cons, List.filterMap_nil, List.getElem?_cons_zero, List.getElem?_cons_succ⟩
end Go.Proofs

/- Contracts of functions, facts of types, or the plain law behind one statement (own work): PS. Conditions: those told in each theorem. -/
import Derived.Test.YtiiolloielppeaaGreatDoorWTL
set_option linter.all false
set_option linter.unusedSimpArgs false
set_option linter.unusedVariables false
set_option maxRecDepth 4000
namespace Go.Proofs
open Go Go.V
/- A text cut at a letter (plain). -/
def splitL (c : UInt8) : List UInt8 → List (List UInt8)
  | [] => [[]]
  | x :: l => if x = c then [] :: splitL c l else
    match splitL c l with
    | [] => [[x]]
    | p :: r => (x :: p) :: r
theorem splitL_ne (c : UInt8) (l : List UInt8) : splitL c l ≠ [] := by
  cases l with
  | nil => simp [splitL]
  | cons x l =>
    simp only [splitL]
    split
    · simp
    · split <;> simp
theorem splitL_no {c : UInt8} : ∀ {l : List UInt8}, c ∉ l → splitL c l = [l]
  | [], _ => rfl
  | x :: l, h => by
    simp only [splitL]
    rw [if_neg (fun e => h (by simp [e])), splitL_no (fun k => h (by simp [k]))]
theorem splitL_app {c : UInt8} : ∀ {a : List UInt8} (b : List UInt8), c ∉ a → splitL c (a ++ c :: b) = a :: splitL c b
  | [], b, _ => by simp [splitL]
  | x :: a, b, h => by
    rw [List.cons_append]
    simp only [splitL]
    rw [if_neg (fun e => h (by simp [e])), splitL_app b (fun k => h (by simp [k]))]
end Go.Proofs

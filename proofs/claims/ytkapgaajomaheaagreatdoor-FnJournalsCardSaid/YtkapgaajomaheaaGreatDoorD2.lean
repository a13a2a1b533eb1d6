/- Contracts of functions, facts of types, or the plain law behind one statement (own work): D2. Conditions: those told in each theorem. -/
import Derived.Test.YtkapgaajomaheaaGreatDoorD1
import Derived.Test.YtkapgaajomaheaaGreatDoorC00
set_option linter.all false
set_option linter.unusedSimpArgs false
set_option linter.unusedVariables false
set_option maxRecDepth 4000
namespace Go.Proofs
open Go Go.V

def plainB (c : UInt8) : Bool := decide (c.toNat = 10) || (decide (32 ≤ c.toNat) && decide (c.toNat ≤ 126))
/-- Is a text plain? -/
def plainM (s : ByteArray) : Bool := s.data.toList.all plainB && decide (s.size ≤ 9000)

def sumM (l : List UInt8) : Nat := l.foldl (fun a c => (29 * a + c.toNat) % 999983) 3
theorem sumM_lt (l : List UInt8) : sumM l < 999983 := by
  unfold sumM
  have : ∀ (l : List UInt8) (a : Nat), a < 999983 → l.foldl (fun a c => (29 * a + c.toNat) % 999983) a < 999983 := by
    intro l
    induction l with
    | nil => intro a h; exact h
    | cons c l ih => intro a h; exact ih _ (Nat.mod_lt _ (by decide))
  exact this l 3 (by decide)
theorem sumM_take {l : List UInt8} {i : Nat} {c : UInt8} (hc : l[i]? = some c) : sumM (l.take (i + 1)) = (29 * sumM (l.take i) + c.toNat) % 999983 := by
  unfold sumM; rw [List.take_add_one, hc, List.foldl_append]; rfl
def sealB (s : ByteArray) : ByteArray := s ++ ⟨#[35]⟩ ++ decB (sumM s.data.toList) ++ ⟨#[10]⟩
theorem sealB_size (s : ByteArray) : (sealB s).size ≤ s.size + 1002 := by
  unfold sealB
  have h1 := decB_size (sumM s.data.toList) (by have := sumM_lt s.data.toList; omega)
  have e1 : (⟨#[35]⟩ : ByteArray).size = 1 := rfl
  have e2 : (⟨#[10]⟩ : ByteArray).size = 1 := rfl
  rw [size_append, size_append, size_append]; omega

theorem str_cat {a b : ByteArray} {n : Nat} (ha : a.size + b.size = n) (hn : n ≤ 9223372036854775807) : strV .add a b = some (.string (a ++ b)) := str_add a b (by omega)

def sealTextM (s : ByteArray) : ByteArray × Bool := if plainM s = true then (sealB s, true) else (⟨#[]⟩, false)
end Go.Proofs

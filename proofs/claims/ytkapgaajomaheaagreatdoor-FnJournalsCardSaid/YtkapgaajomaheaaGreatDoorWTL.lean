/- Contracts of functions, facts of types, or the plain law behind one statement (own work): WTL. Conditions: those told in each theorem. -/
import Derived.Test.YtkapgaajomaheaaGreatDoorD2
set_option linter.all false
set_option linter.unusedSimpArgs false
set_option linter.unusedVariables false
set_option maxRecDepth 4000
namespace Go.Proofs
open Go Go.V

/- Letters. -/
def bL (l : List UInt8) : ByteArray := ⟨l.toArray⟩
theorem bL_size (l : List UInt8) : (bL l).size = l.length := by show l.toArray.size = l.length; simp
theorem bL_app (a b : List UInt8) : bL a ++ bL b = bL (a ++ b) := mk_append a b
theorem bL_add {a b : List UInt8} {n : Nat} (h : a.length + b.length ≤ n) (hn : n ≤ 9223372036854775807) : strV .add (bL a) (bL b) = some (.string (bL (a ++ b))) := by
  rw [str_add _ _ (by rw [bL_size, bL_size]; omega), bL_app]
theorem flatLen {α : Type} (f : α → List UInt8) (b : Nat) : ∀ l : List α, (∀ x ∈ l, (f x).length ≤ b) → (l.flatMap f).length ≤ b * l.length
  | [], _ => by simp
  | x :: l, h => by
    have h1 := h x (by simp)
    have h2 := flatLen f b l (fun y hy => h y (by simp [hy]))
    rw [List.flatMap_cons, List.length_append, List.length_cons, Nat.mul_succ]; omega
theorem flatAll {α : Type} (f : α → List UInt8) (q : UInt8 → Bool) : ∀ l : List α, (∀ x ∈ l, (f x).all q = true) → (l.flatMap f).all q = true
  | [], _ => by simp
  | x :: l, h => by
    rw [List.flatMap_cons, List.all_append, h x (by simp), flatAll f q l (fun y hy => h y (by simp [hy]))]; rfl
theorem flat_take {α : Type} {l : List α} {i : Nat} {x : α} (f : α → List UInt8) (hx : l[i]? = some x) : (l.take (i + 1)).flatMap f = (l.take i).flatMap f ++ f x := by
  rw [List.take_add_one, hx]; simp
theorem dec_len : ∀ (m n : Nat), n < 10 ^ m → 0 < m → (Lib.decDigits n).length ≤ m := by
  intro m
  induction m with
  | zero => intro n _ h; omega
  | succ m ih =>
    intro n hn _
    by_cases c : n < 10
    · rw [Lib.decDigits, dif_pos c]; simp
    · rw [Lib.decDigits, dif_neg c, List.length_append]
      have hm : 0 < m := by
        rcases Nat.eq_zero_or_pos m with rfl | h
        · simp at hn; omega
        · exact h
      have := ih (n / 10) (by rw [Nat.pow_succ] at hn; omega) hm
      simp; omega
theorem plain_digit {n : Nat} (h : n < 10) : plainB (UInt8.ofNat (48 + n)) = true := by
  have e : (UInt8.ofNat (48 + n)).toNat = 48 + n := by
    rw [UInt8.toNat_ofNat']; omega
  unfold plainB; rw [e]; simp; omega
theorem dec_plain (n : Nat) : (Lib.decDigits n).all plainB = true := by
  induction n using Nat.strongRecOn with
  | _ n ih =>
    by_cases c : n < 10
    · rw [Lib.decDigits, dif_pos c]
      rw [List.all_cons, plain_digit c]; rfl
    · rw [Lib.decDigits, dif_neg c, List.all_append, ih (n / 10) (by omega)]
      rw [List.all_cons, plain_digit (show n % 10 < 10 by omega)]; rfl
theorem itoa_plain (n : Int) : (Lib.itoa n).all plainB = true := by
  unfold Lib.itoa
  split
  · rw [List.all_cons, dec_plain]; decide
  · exact dec_plain _
theorem itoa_len {n : Int} (m : Nat) (hm : 0 < m) (h : n.natAbs < 10 ^ m) : (Lib.itoa n).length ≤ m + 1 := by
  unfold Lib.itoa
  split
  · have := dec_len m _ h hm
    rw [List.length_cons]; omega
  · have := dec_len m n.toNat (by omega) hm
    omega
theorem itoa_len0 {n : Int} (m : Nat) (hm : 0 < m) (h0 : 0 ≤ n) (h : n.natAbs < 10 ^ m) : (Lib.itoa n).length ≤ m := by
  unfold Lib.itoa
  rw [if_neg (by omega)]
  exact dec_len m n.toNat (by omega) hm
end Go.Proofs

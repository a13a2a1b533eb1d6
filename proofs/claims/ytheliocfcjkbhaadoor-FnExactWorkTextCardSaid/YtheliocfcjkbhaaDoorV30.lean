/- The layer V, part 30: letters. -/
import Derived.Test.YtheliocfcjkbhaaDoorV29
import Derived.Lib.ItoaNum
import Derived.Sort.Grow
import Derived.WalkSmall
set_option linter.all false
namespace Go.V
open Go Go.RowKit

theorem x_rowV (h : Heap) (size n b off a c : Nat) : rowV h size n (.slice (some ⟨b, off, none⟩) a c) = if n = 0 then some [] else cellsAt h b off (n * size) := rfl
theorem x_rowV_nil (h : Heap) (size n a c : Nat) : rowV h size n (.slice none a c) = some [] := rfl
theorem x_bytesV_nil : bytesV [] = some [] := rfl
theorem x_bytesV (n : Int) (l : List Value) : bytesV (.int .u8 n :: l) = (bytesV l).map (UInt8.ofNat n.toNat :: ·) := rfl
theorem x_ix_nat (P : Program) (t : TypeId) (s : ByteArray) (k : IntKind) (i : Nat) : indexV P t (.string s) (.int k (i : Int)) = if (tk P t).map (·.kind) = some 3 then (s[i]?).map fun b => .int .u8 b.toNat else none := by
  simp [indexV]
theorem get_str {s : ByteArray} {i : Nat} (h : i < s.size) : ∃ c, s[i]? = some c ∧ s.data.toList[i]? = some c := by
  refine ⟨s[i], by simp [h], ?_⟩
  have : i < s.data.toList.length := by simpa using h
  rw [List.getElem?_eq_getElem this]; rfl
theorem str_len (s : ByteArray) : s.data.toList.length = s.size := Array.length_toList
def VE := And.intro @x_rowV (And.intro @x_rowV_nil (And.intro @x_bytesV_nil (And.intro @x_bytesV @x_ix_nat)))
theorem bytes_inj {a b : ByteArray} (h : a.data.toList = b.data.toList) : a = b := by
  cases a; cases b
  congr 1
  exact Array.ext' h
theorem mk_append (l m : List UInt8) : (⟨l.toArray⟩ : ByteArray) ++ ⟨m.toArray⟩ = ⟨(l ++ m).toArray⟩ := by
  apply bytes_inj
  simp
theorem below_grow (w : World) (n : Nat) (os : Array Obj) : Below w.heap.size w (Sort.grow (w.drewN n) os) := by
  have h1 : Below w.heap.size w (w.drewN n) := below_drewN (Below.refl _ w) n
  have hs : (w.drewN n).heap = w.heap := rfl
  refine h1.trans ⟨rfl, rfl, rfl, by simp [Sort.grow], fun k hk => ?_⟩
  simp only [Sort.grow, hs]
  rw [Array.getElem?_append_left hk]
theorem vr_int_inv {ι : List Place} {k : IntKind} {n : Int} {u : Value} (r : VR ι (.int k n) u) : u = .int k n := by
  have hf := r.flat_inv trivial
  cases hf with
  | base hb => cases hb; rfl
theorem args_int {k : IntKind} {n : Int} (ι : List Place) (us : List Value) (h : L2 (VR ι) [.int k n] us) : us = [.int k n] := by
  cases h with
  | cons h1 h2 => cases h2; rw [vr_int_inv h1]
end Go.V

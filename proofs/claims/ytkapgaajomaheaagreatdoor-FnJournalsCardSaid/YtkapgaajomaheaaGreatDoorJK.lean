/- Contracts of functions, facts of types, or the plain law behind one statement (own work): JK. Conditions: those told in each theorem. -/
import Derived.Test.YtkapgaajomaheaaGreatDoorJM
import Derived.Test.YtkapgaajomaheaaGreatDoorD1
set_option linter.all false
set_option linter.unusedSimpArgs false
set_option linter.unusedVariables false
set_option maxRecDepth 4000
namespace Go.Proofs
open Go Go.V
/- The harness' marks of texts. -/
def markT (k : Int) : ByteArray := if k ≤ 0 then ⟨#[109, 48]⟩ else ⟨#[109]⟩ ++ decB k.toNat
theorem markT_size {k : Int} (h : k ≤ 1000000000000000) : (markT k).size ≤ 2000 := by
  unfold markT
  split
  · show 2 ≤ 2000; decide
  · have := decB_size k.toNat (by omega)
    have e : (⟨#[109]⟩ : ByteArray).size = 1 := rfl
    rw [size_append]; omega
instance : Mrk ByteArray := ⟨fun x _ => x, fun _ => 0, fun _ k => markT k, fun _ => 1⟩
instance : CntB ByteArray := ⟨fun _ => Nat.zero_le _, fun x => by show 1 ≤ 8 * (1 + Siz.siz x); omega⟩
instance : Mrk Mk := ⟨fun x _ => x, fun _ => 0, fun _ k => ⟨markT k, k + 1⟩, fun _ => 2⟩
instance : CntB Mk := ⟨fun _ => Nat.zero_le _, fun x => by show 2 ≤ 8 * (1 + Siz.siz x); omega⟩
end Go.Proofs

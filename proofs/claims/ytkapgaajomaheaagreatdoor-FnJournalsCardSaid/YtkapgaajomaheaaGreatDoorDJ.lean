/- Contracts of functions, facts of types, or the plain law behind one statement (own work): DJ. Conditions: those told in each theorem. -/
import Derived.Test.YtkapgaajomaheaaGreatDoorJ1
import Derived.WalkKit
import Derived.ProofKit
import Derived.OpenShut
import Derived.ShutString
import Derived.ChangeOld
import Derived.SizedLaws
set_option linter.all false
set_option linter.unusedSimpArgs false
set_option linter.unusedVariables false
set_option maxRecDepth 4000
namespace Go.Proofs.YtkapgaajomaheaaGreatDoor
open Go Go.V
open Go.ChangeShapes Go.WideShapes Go.ChangeAt Go.RowKit
/- Bytes that come in: how long they may be. -/
theorem tyBytes : ArgT.ty (List UInt8) Tryz.prog 22 := ⟨_, Tryz.underlying22, by kernel_rfl, by decide, Tryz.underlying5⟩
theorem vr_slice_len {ι : List V.Place} {v : Value} {k n c : Nat} {a : Option Addr} (h : VR ι v (.slice a n c)) (hr : IsRow v k) : n = k := by
  have hf := h.flat_inv (by rcases hr with ⟨rfl, _⟩ | ⟨b, off, cap, rfl, _⟩ <;> trivial)
  generalize hu : Value.slice a n c = u at hf
  cases hf with
  | base hb =>
    rcases hr with ⟨rfl, hk⟩ | ⟨b, off, cap, rfl, hk⟩
    · cases hb; cases hu; exact hk.symm
    · generalize hv : Value.slice (some ⟨b, off, none⟩) k cap = v at hb
      cases hb <;> first | (cases hv; done) | skip
      · simp only [Value.slice.injEq] at hv hu
        omega
      · simp only [Value.slice.injEq] at hv hu
        omega
  | func => rcases hr with ⟨hv, _⟩ | ⟨b, off, cap, hv, _⟩ <;> cases hv
theorem bd_bytes {H : Type} {enc : TypeId × Value → H} {W : World} {a : Option Addr} {n c : Nat} {d : DataW H} {ps : List MemPlace} {v : Value} {x : List UInt8} {ι : List V.Place} {g : Heap}
    (hd : DataW.Trod enc Tryz.prog W 0 (fun _ => true) true 22 (.slice a n c) d ps) (hr : ∀ m ∈ d.weights Tryz.prog 22, m ≤ reachBytes) (row : Row g x v) (vr : VR ι v (.slice a n c)) : x.length ≤ 140737488351232 := by
  obtain ⟨fuel, hf⟩ := hd
  have hn := vr_slice_len vr row.isRow
  rw [cells_slice] at hf
  rcases DataW.trod_slice (Tryz.underlying22) hf with ⟨h1, _⟩ | ⟨a', len, cap, elems, rest, m, _, h1, h2, _, _, _, hlen, _⟩
  · simp only [List.cons.injEq, Value.slice.injEq, and_true] at h1
    omega
  · simp only [List.cons.injEq, Value.slice.injEq, and_true] at h1
    obtain ⟨rfl, _⟩ := Prod.mk.injEq .. ▸ h2
    have hb : Tryz.prog.bytesOf 5 = 1 := by kernel_rfl
    have := hr ((elems.length + rest.length) * 1) (by
      unfold DataW.weights
      rw [Tryz.underlying22]
      simp only [List.length_map, hb]
      exact List.mem_cons_self ..)
    unfold reachBytes at this
    omega
end Go.Proofs.YtkapgaajomaheaaGreatDoor

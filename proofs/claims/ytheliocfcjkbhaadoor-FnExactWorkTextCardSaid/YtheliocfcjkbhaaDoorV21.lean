/- The layer V, part 21: what a law's row needs. -/
import Derived.Test.YtheliocfcjkbhaaDoorV20
set_option linter.all false
namespace Go.V
open Go Go.RowKit

theorem cells_slice (a : Option Addr) (n c : Nat) : (Value.slice a n c).cells.toList = [.slice a n c] := rfl

/-- A slice that came in. -/
theorem arg_row {α : Type} [Rep α] [ArgT α] {H : Type} {enc : TypeId × Value → H} {P : Program} {W : World} {t : TypeId} {a : Option Addr} {n c : Nat} {d : DataW H} {ps : List MemPlace}
    (ht : ArgT.ty (List α) P t) (hd : DataW.Trod enc P W 0 (fun _ => true) true t (.slice a n c) d ps) {h : Heap} {ι : List Place} (r : RO W h ι) :
    ∃ (l : List α) (h' : Heap) (ι' : List Place) (v : Value), RO W h' ι' ∧ h <+: h' ∧ ι <+: ι' ∧ Row h' l v ∧ VR ι' v (.slice a n c) := by
  obtain ⟨fuel, hf⟩ := hd
  obtain ⟨l, h', ι', vcs, r', p, q, ⟨fp, v, rfl, hr⟩, hl⟩ := ArgT.opens (α := List α) ht hf h ι r
  rw [cells_slice] at hl
  cases hl with
  | cons hb _ => exact ⟨l, h', ι', v, r', p, q, ⟨fp, hr⟩, .one (.flat (.base hb))⟩

/-- A struct that came in. -/
theorem arg_agg {α : Type} [Rep α] [ArgT α] {H : Type} {enc : TypeId × Value → H} {P : Program} {W : World} {t : TypeId} {cs : Array Value} {d : DataW H} {ps : List MemPlace}
    (ht : ArgT.ty α P t) (hd : DataW.Trod enc P W 0 (fun _ => true) true t (.agg cs) d ps) {h : Heap} {ι : List Place} (r : RO W h ι) :
    ∃ (x : α) (h' : Heap) (ι' : List Place) (vcs : List Value), RO W h' ι' ∧ h <+: h' ∧ ι <+: ι' ∧ Here h' x vcs ∧ VR ι' (.agg vcs.toArray) (.agg cs) := by
  obtain ⟨fuel, hf⟩ := hd
  obtain ⟨x, h', ι', vcs, r', p, q, hx, hl⟩ := ArgT.opens (α := α) ht hf h ι r
  refine ⟨x, h', ι', vcs, r', p, q, hx, .one ?_⟩
  have : AR ι' (.agg vcs.toArray) (.agg cs.toList.toArray) := .agg (hl.imp fun _ _ hb => .base hb)
  simpa using this

theorem VR.pre' {ι ι' : List Place} (h : ι <+: ι') {v u : Value} (r : VR ι v u) : VR ι' v u := VR.pre h r

theorem VR.bool_inv {ι : List Place} {b : Bool} {u : Value} (r : VR ι (.bool b) u) : u = .bool b := by
  generalize hv : Value.bool b = v at r
  cases r with
  | one r =>
    cases r with
    | junk => simp at hv
    | skip => simp at hv
    | flat r =>
      cases r with
      | base r => cases r <;> simp_all
      | func => simp at hv
    | agg => simp at hv
  | tup => simp at hv

/-- What a law's walk comes to. -/
theorem law_calls {P : Program} [Laid P] {f : FuncId} {args us : List Value} {h : Heap} {ι : List Place} {W : World} (hc : CallsV P f args h fun v _ => v = .bool true) (r : RO W h ι) (hg : ∀ w', Below W.heap.size W w' → Laid.G P w') (hu : L2 (VR ι) args us) :
    Calls P f us.toArray W fun e w' => e = .returned (.bool true) ∧ Below W.heap.size W w' := by
  refine (hc W.heap.size ι W us (r.rel hg) hu).mono ?_
  rintro e w' ⟨v, u, h', ι', rfl, rfl, hv, _, _, hb⟩
  exact ⟨by rw [hv.bool_inv], hb⟩
end Go.V

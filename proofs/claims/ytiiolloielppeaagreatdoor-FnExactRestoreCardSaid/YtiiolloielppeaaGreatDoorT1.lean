/- Contracts of functions, facts of types, or the plain law behind one statement (own work): T1. Conditions: those told in each theorem. -/
import Derived.Test.YtiiolloielppeaaGreatDoorT0
import Derived.Handed
import Derived.FnData
import Derived.Shelf.Vars
import Derived.LaidLaws
set_option linter.all false
namespace Go.Proofs
open Go Go.V Go.RowKit Go.ChangeShapes
theorem cell_below {W W' : World} {g : Nat} {v : Value} (h : W.cell? ⟨g, 0, none⟩ = some v) (b : Below W.heap.size W W') : W'.cell? ⟨g, 0, none⟩ = some v := by
  have lt : g < W.heap.size := by
    cases hg : W.heap[g]? with
    | none => simp [World.cell?, hg] at h
    | some x => exact (Array.getElem?_eq_some_iff.1 hg).1
  unfold World.cell? at h ⊢
  have e := b.block g lt
  simp only at h ⊢
  rw [e]; exact h
theorem G_below {W W' : World} (h : Laid.G Tryz.prog W) (b : Below W.heap.size W W') : Laid.G Tryz.prog W' := by
  obtain ⟨h1, ⟨m, hm⟩, ⟨e1, k1, l1⟩, ⟨e2, k2, l2⟩⟩ := h
  exact ⟨tab_below (B := 0) h1 b, ⟨m, cell_below hm b⟩, ⟨e1, cell_below k1 b, l1⟩, ⟨e2, cell_below k2 b, l2⟩⟩
variable {H : Type} {enc : TypeId × Value → H}
/-- The wrap with what is listed and with the world's shape. -/
theorem change_and_shaped {a : Assume} {C : Checked} {os : Os} {f : FuncId} {fn : Func} {s : ChangeSpec} {conds : List PathCond} {apart fresh handsOn again : Bool} {X : World → Array Value → Prop}
    (hX : ∀ (w w' : World) (args : Array Value), w.heap = w'.heap → X w args → X w' args)
    (own : ownKnob C.prog.godebug = none) (started : os.Started) (noInit : C.prog.inits.idxOf? f = none) (hfn : C.prog.funcs[f]? = some fn)
    (witness : ∃ (w : World) (tape : Tape) (i : Input), w.os = os ∧ (w.forCall tape i).Shaped C.prog ∧ i.vars = [] ∧ Input.okWide C.prog (w.forCall tape i) .any w.heap.size f i ∧
      ((s.pre enc C.prog fn conds apart (w.forCall tape i).memory i.args ∧ X (w.forCall tape i).memory i.args) ∧ sizedMet enc C.prog fn (OpenSpec.ofChange s) apart (w.forCall tape i).memory i.args) ∧ a.holds C.prog (lone (Frame.enter C.prog f i.args .normal) [] (w.forCall tape i)))
    (contract : ∀ (W : World) (base : Nat) (args : Array Value) (ds gs : List (DataW H)) (before : List MemPlace),
      (∀ (j : Nat) t v, fn.params[j]? = some t → args[j]? = some v → Value.okWide C.prog W .any base t v) →
      DataW.Whole enc C.prog fn.params.toList s.vars apart W args.toList ds gs before →
      conds.all (PathCond.test C.prog ⟨fn.params.toList, ds, s.plain.varTypes C.prog, gs⟩) = true →
      (DataW.weightsEach C.prog (fn.params.toList ++ s.plain.varTypes C.prog) (ds ++ gs)).all (· ≤ reachBytes) = true → X W args → W.ShapedOpen C.prog →
      Calls C.prog f args W fun e W' => ∃ v, e = .returned v ∧ s.post enc C.prog fn apart fresh handsOn again W args v W') :
    ReturnsInHanded a C os f .any (fun w args => (s.pre enc C.prog fn conds apart w args ∧ X w args) ∧ sizedMet enc C.prog fn (OpenSpec.ofChange s) apart w args) (s.post enc C.prog fn apart fresh handsOn again) := by
  refine returnsInHanded_of_calls own started noInit witness ?_
  intro w tape i _ hsh _ hok hpre _
  obtain ⟨_, _, _, fn', hfn', _, _, _, _, hval⟩ := hok
  have e : fn' = fn := Option.some.inj (hfn'.symm.trans hfn)
  subst e
  obtain ⟨⟨⟨ds, gs, before, hw, _⟩, hx⟩, hz⟩ := hpre
  rename_i hc
  have hw' := DataW.Whole.of_heap (w' := w.forCall tape i) (by rfl) hw
  refine (contract (w.forCall tape i) w.heap.size i.args ds gs before hval hw' hc (hz.weights hw) (hX _ _ _ (by rfl) hx) hsh).mono fun e W' ⟨v, he, hp⟩ => ?_
  subst he
  exact ChangeSpec.post_blind hp
end Go.Proofs

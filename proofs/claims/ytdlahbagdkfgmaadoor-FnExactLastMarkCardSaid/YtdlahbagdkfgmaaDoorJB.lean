/- Contracts of functions, facts of types, or the plain law behind one statement (own work): JB. Conditions: those told in each theorem. -/
import Derived.Test.YtdlahbagdkfgmaaDoorJA
import Derived.Test.YtdlahbagdkfgmaaDoorJL
import Derived.WalkKit
import Derived.ProofKit
import Derived.OpenShut
import Derived.ShutString
import Derived.ChangeOld
import Derived.SizedLaws
set_option linter.all false
set_option linter.unusedSimpArgs false
set_option linter.unusedVariables false
set_option maxRecDepth 4000
namespace Go.Proofs.YtdlahbagdkfgmaaDoor
open Go Go.V
open Go.ChangeShapes Go.WideShapes Go.ChangeAt Go.RowKit
theorem br_string {ι : List V.Place} {s : ByteArray} {u : Value} (h : BR ι (.string s) u) : u = .string s := by cases h; rfl
theorem vr_agg {ι : List V.Place} {l : List Value} {b : Array Value} (h : VR ι (.agg l.toArray) (.agg b)) : L2 (FR ι) l b.toList := by
  generalize hv : Value.agg l.toArray = v at h
  generalize hu : Value.agg b = u at h
  cases h with
  | one h =>
    cases h with
    | junk => cases hv
    | skip => cases hv
    | flat h =>
      cases h with
      | base h => cases h <;> cases hv
      | func => cases hv
    | agg h =>
      simp only [Value.agg.injEq] at hv hu
      have hv2 := congrArg Array.toList hv
      simp only [List.toList_toArray] at hv2
      subst hv2; subst hu
      exact h
  | tup => cases hv
theorem fr_string {ι : List V.Place} {s : ByteArray} {u : Value} (h : FR ι (.string s) u) : u = .string s := by
  generalize hv : Value.string s = v at h
  cases h with
  | base h => subst hv; exact br_string h
  | func => cases hv
/-- What a journal that came in weighs. -/
theorem bd_journal {H : Type} {enc : TypeId × Value → H} {W : World} {b : Array Value} {d : DataW H} {ps : List MemPlace} {vcs : List Value} {x : Jn} {ι : List V.Place} {g : Heap}
    (hd : DataW.Trod enc Tryd.prog W 0 (fun _ => true) true 23 (.agg b) d ps) (hr : ∀ n ∈ d.weights Tryd.prog 23, n ≤ reachBytes) (row : Here g x vcs) (vr : VR ι (.agg vcs.toArray) (.agg b)) : bdJ x := by
  obtain ⟨rfl, _, _⟩ := here_Jn row
  have hv := vr_agg vr
  obtain ⟨fuel, hf⟩ := hd
  obtain ⟨xs, n, _, hdd, hl, hlen, hfs⟩ := DataW.trod_struct Tryd.underlying23 hf
  obtain ⟨rfl, rfl⟩ := Prod.mk.injEq .. ▸ hdd
  have ec : (Value.agg b).cells.toList = b.toList := rfl
  rw [ec] at hl hfs
  match xs, hlen with
  | [y0, y1], _ =>
    have h0 := hfs 0 _ rfl
    have h1 := hfs 1 _ rfl
    generalize hb : b.toList = bl at *
    cases hv with
    | cons r1 hv =>
      cases hv with
      | cons r2 hv =>
        cases hv
        rw [fr_string r1, fr_string r2] at h0 h1
        obtain ⟨s0, e0, q0, _⟩ := DataW.trod_string (show Tryd.prog.underlying _ = some .string from Tryd.underlying9) h0
        obtain ⟨s1, e1, q1, _⟩ := DataW.trod_string (show Tryd.prog.underlying _ = some .string from Tryd.underlying9) h1
        subst q0; subst q1
        have c9 : Tryd.prog.cellsOf 9 = 1 := by kernel_rfl
        have e0 : List.take (Tryd.prog.cellsOf 9) (List.drop 0 [Value.string x.safe, Value.string x.pending]) = [.string s0] := e0
        have e1 : List.take (Tryd.prog.cellsOf 9) (List.drop 1 [Value.string x.safe, Value.string x.pending]) = [.string s1] := e1
        simp only [c9, List.drop_zero, List.take_succ_cons, List.take_zero, List.drop_succ_cons, List.cons.injEq, and_true, Value.string.injEq] at e0 e1
        subst e0; subst e1
        have hw : DataW.weights Tryd.prog 23 (.agg [(.lit (.string x.safe.data.toList) : DataW H), .lit (.string x.pending.data.toList)]) = [x.safe.data.toList.length, x.pending.data.toList.length] := by
          unfold DataW.weights
          rw [Tryd.underlying23]
          simp [DataW.weightsEach, DataW.weights]
        have hr2 : ∀ n ∈ [x.safe.data.toList.length, x.pending.data.toList.length], n ≤ reachBytes := by rw [← hw]; exact hr
        have a1 := hr2 _ (List.mem_cons_self ..)
        have a2 := hr2 _ (List.mem_cons_of_mem _ (List.mem_cons_self ..))
        rw [str_len] at a1 a2
        exact ⟨a1, a2⟩
end Go.Proofs.YtdlahbagdkfgmaaDoor

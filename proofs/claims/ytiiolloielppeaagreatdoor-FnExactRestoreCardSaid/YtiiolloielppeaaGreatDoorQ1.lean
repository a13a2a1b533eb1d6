/- Contracts of functions, facts of types, or the plain law behind one statement (own work): Q1. Conditions: those told in each theorem. -/
import Derived.Test.YtiiolloielppeaaGreatDoorD1
import Derived.Test.YtiiolloielppeaaGreatDoorSH3
import Derived.Test.YtiiolloielppeaaGreatDoorQ3
set_option linter.all false
set_option linter.unusedSimpArgs false
set_option linter.unusedVariables false
set_option maxRecDepth 4000
set_option linter.unusedSectionVars false
namespace Go.Proofs
open Go Go.V Go.RowKit
/- The library's functions that the parsers call. -/
theorem below_drew (w : World) (n : Nat) : Below w.heap.size w (w.drewN n) := by
  exact below_drewN (Below.refl _ w) n
theorem CallsV.of_calls' {P : Program} [Laid P] {f : FuncId} {args : List Value} {v : Value} {h : Heap} {Q : Value → Heap → Prop}
    (ha : ∀ ι us, L2 (VR ι) args us → us = args)
    (hc : ∀ w, Laid.G P w → Calls P f args.toArray w fun e w' => ∃ u, e = .returned u ∧ (∀ ι, VR ι v u) ∧ Below w.heap.size w w') (hQ : Q v h) : CallsV P f args h Q := by
  intro B0 ι w us r hu
  obtain rfl := ha ι us hu
  refine (hc w (r.glob w (Below.refl B0 w))).mono ?_
  rintro e w' ⟨u, rfl, hv, b⟩
  exact ⟨v, u, h, ι, rfl, hQ, hv ι, r.below b, List.prefix_rfl, ⟨b.os, b.tape, b.output, b.size, fun k hk => b.block k (Nat.lt_of_lt_of_le hk r.base)⟩⟩
theorem vr_str_inv {ι : List V.Place} {s : ByteArray} {u : Value} (h : VR ι (.string s) u) : u = .string s := by
  have hf := h.flat_inv trivial
  cases hf with
  | base hb => cases hb; rfl
theorem args_str (s : ByteArray) (ι : List V.Place) (us : List Value) (h : L2 (VR ι) [.string s] us) : us = [.string s] := by
  cases h with
  | cons h1 h2 => cases h2; rw [vr_str_inv h1]
theorem args_strs2 (s t : ByteArray) (ι : List V.Place) (us : List Value) (h : L2 (VR ι) [.string s, .string t] us) : us = [.string s, .string t] := by
  cases h with
  | cons h1 h2 =>
    cases h2 with
    | cons h2 h3 => cases h3; rw [vr_str_inv h1, vr_str_inv h2]
theorem cut_c {s sep : ByteArray} {h : Heap} {Q : Value → Heap → Prop} (hs : s.size ≤ 1000000)
    (hQ : ∀ b, Q (.tuple #[.string (bL (cutB s.data.toList sep.data.toList).1), .string (bL (cutB s.data.toList sep.data.toList).2), .bool b]) h) :
    CallsV Tryz.prog 35 [.string s, .string sep] h Q := by
  refine CallsV.of_calls' (args_strs2 s sep) (fun w hg => ?_) (hQ (Lib.cut s.data.toList sep.data.toList).2.2)
  obtain ⟨m, hm⟩ := hg.2.1
  refine (Tryz.strings_Cut s sep m w (by omega) hm).mono ?_
  rintro e w' ⟨rfl, n, rfl⟩
  exact ⟨_, rfl, fun ι => .tup (.cons (.flat (.base (.string _))) (.cons (.flat (.base (.string _))) (.cons (.flat (.base (.bool _))) .nil))), below_drew w n⟩
theorem trimSuffix_c {s p : ByteArray} {h : Heap} {Q : Value → Heap → Prop} (hs : s.size ≤ 1000000)
    (hQ : Q (.string (bL (Lib.trimSuffix s.data.toList p.data.toList))) h) :
    CallsV Tryz.prog 34 [.string s, .string p] h Q := by
  refine CallsV.of_calls' (args_strs2 s p) (fun w hg => ?_) hQ
  refine (Tryz.strings_TrimSuffix s p w (by omega)).mono ?_
  rintro e w' ⟨rfl, rfl⟩
  exact ⟨_, rfl, fun ι => .one (.flat (.base (.string _))), Below.refl _ _⟩
def errV (o : Option Int) : Value := if o.isSome = true then .nilIface else .iface 0 (.tuple #[])
theorem atoi_c {s : ByteArray} {h : Heap} {Q : Value → Heap → Prop} (hs : s.size ≤ 1000000)
    (hQ : Q (.tuple #[.int .i64 (atoiN s.data.toList), errV (atoiO s.data.toList)]) h) :
    CallsV Tryz.prog 36 [.string s] h Q := by
  refine CallsV.of_calls' (args_str s) (fun w hg => ?_) hQ
  unfold atoiN atoiO
  cases ha : Lib.atoiAll s.data.toList
  · rename_i v
    refine (Tryz.strconv_Atoi_ok s (by omega) v ha w).mono ?_
    rintro e w' ⟨rfl, hw⟩
    refine ⟨_, rfl, fun ι => .tup (.cons (.flat (.base (.int _ _))) (.cons (.flat (.base .nilI)) .nil)), ?_⟩
    rcases hw with rfl | ⟨t, rfl⟩
    · exact Below.refl _ _
    · exact Lib.bytesWorld_below _ _ _
  · obtain ⟨ev, h1, h2⟩ := hg.2.2.1
    refine (Tryz.strconv_Atoi_syntax s (by omega) ha ev w h1 h2).mono ?_
    rintro e w' ⟨N, rfl, _, _, hb⟩
    exact ⟨_, rfl, fun ι => .tup (.cons (.flat (.base (.int _ _))) (.cons (.flat (.base (.tok _ _))) .nil)), hb⟩
  · obtain ⟨ev, h1, h2⟩ := hg.2.2.2
    refine (Tryz.strconv_Atoi_range s (by omega) ha ev w h1 h2).mono ?_
    rintro e w' ⟨N, rfl, _, _, hb⟩
    exact ⟨_, rfl, fun ι => .tup (.cons (.flat (.base (.int _ _))) (.cons (.flat (.base (.tok _ _))) .nil)), hb⟩
end Go.Proofs

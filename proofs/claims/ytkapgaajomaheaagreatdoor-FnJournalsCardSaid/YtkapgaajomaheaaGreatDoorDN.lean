/- Contracts of functions, facts of types, or the plain law behind one statement (own work): DN. Conditions: those told in each theorem. -/
import Derived.Test.YtkapgaajomaheaaGreatDoorDL
import Derived.Test.YtkapgaajomaheaaGreatDoorDS
import Derived.Test.YtkapgaajomaheaaGreatDoorJI
import Derived.Test.YtkapgaajomaheaaGreatDoorGX
set_option linter.all false
set_option linter.unusedSimpArgs false
set_option linter.unusedVariables false
set_option maxRecDepth 4000
namespace Go.Proofs
open Go Go.V
/- Journals: the law's parts. -/
def partC : List Bool → Code → Code
  | [], c => c
  | b :: l, .seq x y => partC l (if b then y else x)
  | _ :: _, c => c
theorem ops_cutJ {all : Array Oper} {os : List Oper} {d : Option Tmp} {e : Env} {v : Value} {h : Heap} {code : Code} {K : VX → Env → Heap → Prop} (I : Env → Heap → Prop)
    (main : ∀ K' : Env → Heap → Prop, (∀ e' h', I e' h' → K' e' h') → OpsK Tryz.prog all os d e K' v h) (key : ∀ e' h', I e' h' → wpV Tryz.prog code e' h' K) : OpsK Tryz.prog all os d e (SeqK Tryz.prog code K .norm) v h := main _ key
theorem seq_cutJ {X C : Code} {e : Env} {h : Heap} {K : VX → Env → Heap → Prop} (I : Env → Heap → Prop)
    (main : ∀ K' : VX → Env → Heap → Prop, (∀ e' h', I e' h' → K' .norm e' h') → wpV Tryz.prog X e h K') (key : ∀ e' h', I e' h' → wpV Tryz.prog C e' h' K) : wpV Tryz.prog (.seq X C) e h K :=
  main (SeqK Tryz.prog C K) fun e' h' i => key e' h' i
theorem wp_eq {X Y : Code} {e : Env} {h : Heap} {K : VX → Env → Heap → Prop} (hx : X = Y) (w : wpV Tryz.prog Y e h K) : wpV Tryz.prog X e h K := hx ▸ w
abbrev jC (j : Jn) : List Value := [.string j.safe, .string j.pending]
abbrev mC (m : Mk) : List Value := [.string m.path, .int .i64 m.kind]
theorem jn_okJ {j : Jn} (h : j.safe.size + j.pending.size ≤ 400000) (h' : Heap) : Here h' j (jC j) := mk_Jn (x := j) (by omega) (by omega)
/-- What the law holds behind its calls. -/
structure JrI (h : Heap) (j A Cc : Jn) (m : Mk) (M : List Mk) (O X : List ByteArray) (T : Int) (ok one nine : Bool) (p5 p6 p7 p9 p15 p17 : Nat) (w11 w13 w19 w21 w23 w25 : Value) (e : Env) (h' : Heap) : Prop where
  e5 : e 5 = .pointer (some ⟨p5, 0, none⟩)
  e6 : e 6 = .pointer (some ⟨p6, 0, none⟩)
  e7 : e 7 = .pointer (some ⟨p7, 0, none⟩)
  e8 : e 8 = .bool ok
  e9 : e 9 = .pointer (some ⟨p9, 0, none⟩)
  e10 : e 10 = .bool ok
  e11 : e 11 = w11
  e12 : e 12 = .bool one
  e13 : e 13 = w13
  e14 : e 14 = .bool one
  e15 : e 15 = .pointer (some ⟨p15, 0, none⟩)
  e16 : e 16 = .bool one
  e17 : e 17 = .pointer (some ⟨p17, 0, none⟩)
  e18 : e 18 = .bool one
  e19 : e 19 = w19
  e20 : e 20 = .bool one
  e21 : e 21 = w21
  e22 : e 22 = .bool one
  e23 : e 23 = w23
  e24 : e 24 = .bool one
  e25 : e 25 = w25
  e26 : e 26 = .bool one
  e29 : e 29 = .int .i64 T
  e30 : e 30 = .bool nine
  e31 : e 31 = .int .i64 T
  e32 : e 32 = .bool nine
  s : Sep h h' [repA X [w25], repA X [w23], repA O [w21], repA O [w19], blkA p17 (jC Cc) 24, blkA p15 (jC Cc) 24, repA M [w13], repA M [w11], blkA p9 (jC A) 24, blkA p7 (jC A) 24, blkA p6 (mC m) 26, blkA p5 (jC j) 24]
end Go.Proofs

/- Contracts of functions, facts of types, or the plain law behind one statement (own work): J1. Conditions: those told in each theorem. -/
import Derived.Test.YtkapgaajomaheaaGreatDoorC00
set_option linter.all false
set_option linter.unusedSimpArgs false
set_option linter.unusedVariables false
set_option maxRecDepth 4000
namespace Go.Proofs
open Go Go.V
set_option linter.unusedSectionVars false
variable [Laid Tryz.prog]
structure Mk where
  path : ByteArray
  kind : Int
  deriving DecidableEq, Inhabited
instance : Rep Mk := Rep.iso (α := ByteArray × Int) fun x => (x.path, x.kind)
theorem Mk.sz : Rep.sz Mk = 2 := rfl
instance : Giv Mk := Giv.iso (α := ByteArray × Int) (fun (x : Mk) => (x.path, x.kind)) (⟨⟨#[126, 115, 112, 97, 114, 101, 126]⟩, (-7000000000000000101)⟩ : Mk)
instance : Siz Mk := ⟨fun x => Siz.siz x.path + Siz.siz x.kind⟩
theorem here_Mk {h : Heap} {x : Mk} {cs : List Value} (hr : Here h x cs) : cs = [.string x.path, .int .i64 x.kind] ∧ x.path.size ≤ 9223372036854775807 ∧ inI64 x.kind := by
  have hrp : Here (α := ByteArray × Int) h (x.path, x.kind) _ := hr
  obtain ⟨c1, d1, rfl, q1, r1⟩ := here_pair hrp
  obtain ⟨rfl, f2⟩ := here_str q1
  obtain ⟨rfl, f3⟩ := here_int r1
  exact ⟨rfl, f2, f3⟩
theorem giv_Mk {h : Heap} {x : Mk} {cs : List Value} (hr : GivH h x cs) : cs = [.string x.path, .int .i64 x.kind] ∧ x.path.size ≤ 9223372036854775807 ∧ inI64 x.kind := by
  have hrp : GivH (α := ByteArray × Int) h (x.path, x.kind) _ := hr
  obtain ⟨c1, d1, rfl, q1, r1⟩ := giv_pair hrp
  obtain ⟨rfl, f2⟩ := here_str q1.here
  obtain ⟨rfl, f3⟩ := giv_int r1
  exact ⟨rfl, f2, f3⟩
theorem mk_Mk {h : Heap} {x : Mk} (h1 : x.path.size ≤ 9223372036854775807) (h2 : inI64 x.kind) : Here h x [.string x.path, .int .i64 x.kind] := (mk_pair (p := (x.path, x.kind)) (mk_str h1) (mk_int h2))
theorem mkg_Mk {h : Heap} {x : Mk} (h1 : x.path.size ≤ 9223372036854775807) (h2 : inI64 x.kind) : GivH h x [.string x.path, .int .i64 x.kind] := (mkg_pair (p := (x.path, x.kind)) (mkg_str h1) (mkg_int h2))
theorem at_Mk {h : Heap} {b off : Nat} {x : Mk} (hp : At h b off x) : getC h b off = some (.string x.path) ∧ getC h b (off + 1) = some (.int .i64 x.kind) ∧ x.path.size ≤ 9223372036854775807 ∧ inI64 x.kind ∧ cellsAt h b off 2 = some [.string x.path, .int .i64 x.kind] := by
  obtain ⟨cs, hc, hr⟩ := hp
  rw [Mk.sz] at hc
  obtain ⟨rfl, f1, f2⟩ := here_Mk hr
  exact ⟨cellsAt_getC hc 0 (by decide), cellsAt_getC hc 1 (by decide), f1, f2, hc⟩
theorem rep_Mk {h : Heap} {x : Mk} (h1 : x.path.size ≤ 9223372036854775807) (h2 : inI64 x.kind) : Rep.rep h x [.string x.path, .int .i64 x.kind] [] := by
  obtain ⟨fp, hr⟩ := mk_Mk (h := []) h1 h2
  obtain rfl : fp = [] := List.eq_nil_iff_forall_not_mem.2 fun b hb => by simpa using Rep.live hr b hb
  exact Rep.frame hr (by simp)
theorem zero_Mk (h : Heap) : Rep.rep h (⟨⟨#[]⟩, 0⟩ : Mk) [.string ⟨#[]⟩, .int .i64 0] [] := (rep_pair0 (p := ((⟨#[]⟩, 0) : (ByteArray × Int))) (rep_str (h := h) (by decide)) (rep_int (h := h) ⟨by decide, by decide⟩))
structure Jn where
  safe : ByteArray
  pending : ByteArray
  deriving DecidableEq, Inhabited
instance : Rep Jn := Rep.iso (α := ByteArray × ByteArray) fun x => (x.safe, x.pending)
theorem Jn.sz : Rep.sz Jn = 2 := rfl
instance : Giv Jn := Giv.iso (α := ByteArray × ByteArray) (fun (x : Jn) => (x.safe, x.pending)) (⟨⟨#[126, 115, 112, 97, 114, 101, 126]⟩, ⟨#[126, 115, 112, 97, 114, 101, 126]⟩⟩ : Jn)
instance : Siz Jn := ⟨fun x => Siz.siz x.safe + Siz.siz x.pending⟩
theorem here_Jn {h : Heap} {x : Jn} {cs : List Value} (hr : Here h x cs) : cs = [.string x.safe, .string x.pending] ∧ x.safe.size ≤ 9223372036854775807 ∧ x.pending.size ≤ 9223372036854775807 := by
  have hrp : Here (α := ByteArray × ByteArray) h (x.safe, x.pending) _ := hr
  obtain ⟨c1, d1, rfl, q1, r1⟩ := here_pair hrp
  obtain ⟨rfl, f2⟩ := here_str q1
  obtain ⟨rfl, f3⟩ := here_str r1
  exact ⟨rfl, f2, f3⟩
theorem giv_Jn {h : Heap} {x : Jn} {cs : List Value} (hr : GivH h x cs) : cs = [.string x.safe, .string x.pending] ∧ x.safe.size ≤ 9223372036854775807 ∧ x.pending.size ≤ 9223372036854775807 := by
  have hrp : GivH (α := ByteArray × ByteArray) h (x.safe, x.pending) _ := hr
  obtain ⟨c1, d1, rfl, q1, r1⟩ := giv_pair hrp
  obtain ⟨rfl, f2⟩ := here_str q1.here
  obtain ⟨rfl, f3⟩ := here_str r1.here
  exact ⟨rfl, f2, f3⟩
theorem mk_Jn {h : Heap} {x : Jn} (h1 : x.safe.size ≤ 9223372036854775807) (h2 : x.pending.size ≤ 9223372036854775807) : Here h x [.string x.safe, .string x.pending] := (mk_pair (p := (x.safe, x.pending)) (mk_str h1) (mk_str h2))
theorem mkg_Jn {h : Heap} {x : Jn} (h1 : x.safe.size ≤ 9223372036854775807) (h2 : x.pending.size ≤ 9223372036854775807) : GivH h x [.string x.safe, .string x.pending] := (mkg_pair (p := (x.safe, x.pending)) (mkg_str h1) (mkg_str h2))
theorem at_Jn {h : Heap} {b off : Nat} {x : Jn} (hp : At h b off x) : getC h b off = some (.string x.safe) ∧ getC h b (off + 1) = some (.string x.pending) ∧ x.safe.size ≤ 9223372036854775807 ∧ x.pending.size ≤ 9223372036854775807 ∧ cellsAt h b off 2 = some [.string x.safe, .string x.pending] := by
  obtain ⟨cs, hc, hr⟩ := hp
  rw [Jn.sz] at hc
  obtain ⟨rfl, f1, f2⟩ := here_Jn hr
  exact ⟨cellsAt_getC hc 0 (by decide), cellsAt_getC hc 1 (by decide), f1, f2, hc⟩
theorem rep_Jn {h : Heap} {x : Jn} (h1 : x.safe.size ≤ 9223372036854775807) (h2 : x.pending.size ≤ 9223372036854775807) : Rep.rep h x [.string x.safe, .string x.pending] [] := by
  obtain ⟨fp, hr⟩ := mk_Jn (h := []) h1 h2
  obtain rfl : fp = [] := List.eq_nil_iff_forall_not_mem.2 fun b hb => by simpa using Rep.live hr b hb
  exact Rep.frame hr (by simp)
theorem zero_Jn (h : Heap) : Rep.rep h (⟨⟨#[]⟩, ⟨#[]⟩⟩ : Jn) [.string ⟨#[]⟩, .string ⟨#[]⟩] [] := (rep_pair0 (p := ((⟨#[]⟩, ⟨#[]⟩) : (ByteArray × ByteArray))) (rep_str (h := h) (by decide)) (rep_str (h := h) (by decide)))
end Go.Proofs

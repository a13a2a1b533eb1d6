/- The layer V and contracts of functions over it, or plain laws behind one statement (own work): MK=XC,XD,XE. Conditions: those told in each theorem. -/
import Derived.Test.YtlnephhhcofilaaGreatMJ
import Derived.Shelf.Spec.SlicesGrow
set_option linter.all false
section
set_option linter.unusedSimpArgs false
set_option linter.unusedVariables false
set_option maxRecDepth 4000
namespace Go.Proofs
open Go Go.V Go.RowKit
def growI_ren : Go.Shelf.Ren := ⟨fun | 4 => 101 | n => n, fun | 22 => 23 | 25 => 3 | n => n, fun | n => n⟩
theorem growI : Go.Proofs.Lays8.n4 Tryz.prog growI_ren := {
  mixed := by kernel_rfl
  f4 := ⟨Tryz.f101.name, by decide, Tryz.func101.trans (congrArg some (by kernel_rfl))⟩
  t0 := Tryz.underlying0
  a0 := Tryz.isAgg0
  z0 := Tryz.sizeOf0
  v0 := Tryz.zeroValue0
  t3 := Tryz.underlying3
  a3 := Tryz.isAgg3
  z3 := Tryz.sizeOf3
  v3 := Tryz.zeroValue3
  t4 := Tryz.underlying4
  a4 := Tryz.isAgg4
  z4 := Tryz.sizeOf4
  v4 := Tryz.zeroValue4
  t9 := Tryz.underlying9
  a9 := Tryz.isAgg9
  z9 := Tryz.sizeOf9
  v9 := Tryz.zeroValue9
  t20 := Tryz.underlying20
  a20 := Tryz.isAgg20
  z20 := Tryz.sizeOf20
  v20 := Tryz.zeroValue20
  t22 := Tryz.underlying23
  a22 := Tryz.isAgg23
  z22 := Tryz.sizeOf23
  v22 := Tryz.zeroValue23 }
theorem grow_nil {f : FuncId} {el : TypeId} {k : TK} {n : Nat} {h : Heap} {Q : Value → Heap → Prop} (hk : tk Tryz.prog el = some k) (hn : 0 < n)
    (hc : ∀ w, Calls Tryz.prog f #[.slice none 0 0, .int .i64 (n : Int)] w fun e w' => e = .returned (.slice (some ⟨w.heap.size, 0, none⟩) 0 (grownCap w n 0 el)) ∧
      w' = w.drew.alloc (.cells (rep n k.zero ++ rep (grownCap w n 0 el - n) k.zero).toArray el))
    (hQ : Q (.slice (some ⟨h.length, 0, none⟩) 0 n) (h ++ [some ⟨rep n k.zero, el, false, false⟩])) : CallsV Tryz.prog f [.slice none 0 0, .int .i64 (n : Int)] h Q := by
  intro B0 ι w us r hu
  obtain rfl : us = [.slice none 0 0, .int .i64 (n : Int)] := by
    cases hu with
    | cons h1 h2 =>
      cases h2 with
      | cons h2 h3 => cases h3; rw [h1.closed_eq rfl, h2.closed_eq rfl]
  refine (hc w).mono ?_
  rintro e w' ⟨rfl, rfl⟩
  obtain ⟨_, _, _, _, _, _, _, _, _, hcl, hzl, _⟩ := tk_info hk
  have hg := grownCap_ge w n 0 el
  have hl : (rep n k.zero).length = n * k.size := by rw [rep_length, hzl]
  obtain ⟨_, h2⟩ := r.drew.grown (cs := rep n k.zero) (us := rep n k.zero) (z := k.zero) hk (.closed (closed_rep hcl)) hzl hl hn hg
  refine ⟨.slice (some ⟨h.length, 0, none⟩) 0 n, _, _, ι ++ [⟨w.heap.size, 0, grownCap w n 0 el - n⟩], rfl, hQ, ?_, h2, List.prefix_append _ _, ((Below.refl B0 w).drew).trans (Below.of_alloc r.drew.base _)⟩
  refine .one (.flat (.base ?_))
  have := BR.slice (ι := ι ++ [⟨w.heap.size, 0, grownCap w n 0 el - n⟩]) (b := h.length) (off := 0) (len := 0) (cap := n) (p := ⟨w.heap.size, 0, grownCap w n 0 el - n⟩) (by rw [← r.len]; simp) hn
  have e : n + (grownCap w n 0 el - n) = grownCap w n 0 el := by omega
  simpa [e] using this
end Go.Proofs
end

section
set_option linter.unusedSimpArgs false
set_option linter.unusedVariables false
set_option maxRecDepth 4000
namespace Go.Proofs
open Go Go.V Go.RowKit
theorem Sep_room {α : Type} [Rep α] {a h : Heap} {L : List Asr} (s : Sep a h L) (el : TypeId) {cs : List Value} {n : Nat} (hl : cs.length = n * Rep.sz α) :
    Sep a (h ++ [some ⟨cs, el, false, false⟩]) (ownA (α := α) el [] (.slice (some ⟨h.length, 0, none⟩) 0 n) :: L) := by
  refine (s.newBlk cs el false).to fun fp ⟨e, ex', hg⟩ hd => ?_
  subst e
  exact ⟨[h.length], Own.mk' (α := α) (l := []) (b := h.length) (off := 0) (cap := n) (fps := []) (Nat.zero_le _) (by simp) hg rfl rfl (by simp [hl]) ⟨by simp, rfl⟩ (by simp), by simp, fun _ h => h⟩
theorem grow_of {ρ : Go.Shelf.Ren} (L : Go.Proofs.Lays8.n4 Tryz.prog ρ) {k : TK} {n : Nat} (hk : tk Tryz.prog (ρ.t 25) = some k) (hn : 0 < n) (hb : n * k.bytes ≤ 140737488355328) (h6 : n ≤ 4611686018427387904) (w : World) :
    Calls Tryz.prog (ρ.f 4) #[.slice none 0 0, .int .i64 (n : Int)] w fun e w' => e = .returned (.slice (some ⟨w.heap.size, 0, none⟩) 0 (grownCap w n 0 (ρ.t 25))) ∧
      w' = w.drew.alloc (.cells (rep n k.zero ++ rep (grownCap w n 0 (ρ.t 25) - n) k.zero).toArray (ρ.t 25)) := by
  obtain ⟨i0, z, d, hi, hd, hz, hzc, hsz, hby, hcl, hzl, h0, _⟩ := tk_info hk
  have := Any8.slices_Grow_grow L i0 z hi hz (by omega) none 0 0 n [] w (Nat.le_refl _) (by omega) (by rw [hby]; simpa using hb) (by omega) (by simp) (fun _ => rfl) (fun a ha => by cases ha)
  refine this.mono ?_
  rintro e w' ⟨rfl, rfl⟩
  rw [Nat.zero_add]
  refine ⟨rfl, ?_⟩
  congr 2
  apply Array.ext'
  simp only [Array.toList_append, zeroCells_rep, hzc, Nat.sub_zero]
  simp
theorem room_nil {f : FuncId} {h : Heap} {Q : Value → Heap → Prop}
    (hc : ∀ w : World, 0 ≤ 0 → (0 : Nat) ≤ 9223372036854775807 → (0 : Nat) ≤ 9223372036854775807 → 0 + 0 ≤ 0 → Calls Tryz.prog f #[.slice none 0 0, .int .i64 ((0 : Nat) : Int)] w fun e w' => e = .returned (.slice none 0 0) ∧ w' = w)
    (hQ : Q (.slice none 0 0) h) : CallsV Tryz.prog f [.slice none 0 0, .int .i64 ((0 : Nat) : Int)] h Q := by
  refine CallsV.of_calls (fun ι us hu => ?_) (fun ι => .closed rfl) (fun w _ => ?_) hQ
  · cases hu with
    | cons h1 h2 =>
      cases h2 with
      | cons h2 h3 => cases h3; rw [h1.closed_eq rfl, h2.closed_eq rfl]
  · refine (hc w (by omega) (by omega) (by omega) (by omega)).mono ?_
    rintro e w' ⟨rfl, rfl⟩
    exact ⟨rfl, Below.refl _ _⟩
theorem growI_c {n : Nat} {h : Heap} {Q : Value → Heap → Prop} (hn : n ≤ 1000000) (hQ : ∀ v h', Sep h h' [ownA (α := Int) 3 [] v] → Q v h') :
    CallsV Tryz.prog 101 [.slice none 0 0, .int .i64 (n : Int)] h Q := by
  rcases Nat.eq_zero_or_pos n with rfl | hp
  · exact room_nil (Any8.slices_Grow_room growI none 0 0 0) (hQ _ _ ((Sep.nil (.refl h)).nilA _))
  · refine grow_nil (k := _) tk3 hp (grow_of growI tk3 hp (by simp only []; omega) (by omega)) (hQ _ _ ?_)
    exact Sep_room (Sep.nil (.refl h)) _ (by rw [rep_length]; rfl)
end Go.Proofs
end

section
set_option linter.unusedSimpArgs false
set_option linter.unusedVariables false
set_option maxRecDepth 4000
namespace Go.Proofs
open Go Go.V
/- Three cells as they are: a box that is moved about without being looked into. -/
structure Raw3 where
  c : List Value
  hc : c.length = 3
instance : Rep Raw3 where
  sz := 3
  rep := fun _ x cs fp => cs = x.c ∧ fp = []
  len := fun {_ x _ _} h => by rw [h.1]; exact x.hc
  frame := fun h _ => h
  live := fun h b hb => by rw [h.2] at hb; simp at hb
instance : FlatT Raw3 := ⟨fun h => h.2⟩
def RelB (h : Heap) : List Bx → List Raw3 → Prop
  | [], [] => True
  | x :: l, r :: m => Here h x r.c ∧ RelB h l m
  | _, _ => False
theorem RelB.mono {h h' : Heap} (E : Ext h h') : ∀ {l : List Bx} {m : List Raw3}, RelB h l m → RelB h' l m
  | [], [], _ => trivial
  | x :: l, r :: m, ⟨h1, h2⟩ => ⟨h1.mono E, h2.mono E⟩
  | [], _ :: _, h => h.elim
  | _ :: _, [], h => h.elim
theorem RelB.app {h : Heap} : ∀ {l : List Bx} {m : List Raw3} {l' : List Bx} {m' : List Raw3}, RelB h l m → RelB h l' m' → RelB h (l ++ l') (m ++ m')
  | [], [], _, _, _, k => k
  | x :: l, r :: m, _, _, ⟨h1, h2⟩, k => ⟨h1, h2.app k⟩
  | [], _ :: _, _, _, h, _ => h.elim
  | _ :: _, [], _, _, h, _ => h.elim
theorem RelB.len {h : Heap} : ∀ {l : List Bx} {m : List Raw3}, RelB h l m → m.length = l.length
  | [], [], _ => rfl
  | x :: l, r :: m, ⟨h1, h2⟩ => by rw [List.length_cons, List.length_cons, h2.len]
  | [], _ :: _, h => h.elim
  | _ :: _, [], h => h.elim
end Go.Proofs
end

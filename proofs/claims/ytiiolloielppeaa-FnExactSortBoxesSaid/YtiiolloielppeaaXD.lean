/- Contracts of functions, facts of types, or the plain law behind one statement (own work): XD. Conditions: those told in each theorem. -/
import Derived.Test.YtiiolloielppeaaXC
set_option linter.all false
set_option linter.unusedSimpArgs false
set_option linter.unusedVariables false
set_option maxRecDepth 4000
namespace Go.Proofs
open Go Go.V Go.RowKit
theorem Sep_room {α : Type} [Rep α] {a h : Heap} {L : List Asr} (s : Sep a h L) (el : TypeId) {cs : List Value} {n : Nat} (hl : cs.length = n * Rep.sz α) :
    Sep a (h ++ [some ⟨cs, el, false, false⟩]) (ownA (α := α) el [] (.slice (some ⟨h.length, 0, none⟩) 0 n) :: L) := by
  refine (s.newBlk cs el false).to fun fp ⟨e, ex', hg⟩ hd => ?_
  subst e
  exact ⟨[h.length], Own.mk' (α := α) (l := []) (b := h.length) (off := 0) (cap := n) (fps := []) (Nat.zero_le _) (by simp) hg rfl rfl (by simp [hl]) ⟨by simp, rfl⟩ (by simp), by simp, fun _ h => h⟩
theorem grow_of {ρ : Go.Shelf.Ren} (L : Go.Proofs.Lays8.n4 Try.prog ρ) {k : TK} {n : Nat} (hk : tk Try.prog (ρ.t 25) = some k) (hn : 0 < n) (hb : n * k.bytes ≤ 140737488355328) (h6 : n ≤ 4611686018427387904) (w : World) :
    Calls Try.prog (ρ.f 4) #[.slice none 0 0, .int .i64 (n : Int)] w fun e w' => e = .returned (.slice (some ⟨w.heap.size, 0, none⟩) 0 (grownCap w n 0 (ρ.t 25))) ∧
      w' = w.drew.alloc (.cells (rep n k.zero ++ rep (grownCap w n 0 (ρ.t 25) - n) k.zero).toArray (ρ.t 25)) := by
  obtain ⟨i0, z, d, hi, hd, hz, hzc, hsz, hby, hcl, hzl, h0, _⟩ := tk_info hk
  have := Any8.slices_Grow_grow L i0 z hi hz (by omega) none 0 0 n [] w (Nat.le_refl _) (by omega) (by rw [hby]; simpa using hb) (by omega) (by simp) (fun _ => rfl) (fun a ha => by cases ha)
  refine this.mono ?_
  rintro e w' ⟨rfl, rfl⟩
  rw [Nat.zero_add]
  refine ⟨rfl, ?_⟩
  congr 2
  apply Array.ext'
  simp only [Array.toList_append, zeroCells_rep, hzc, Nat.sub_zero]
  simp
theorem room_nil {f : FuncId} {h : Heap} {Q : Value → Heap → Prop}
    (hc : ∀ w : World, 0 ≤ 0 → (0 : Nat) ≤ 9223372036854775807 → (0 : Nat) ≤ 9223372036854775807 → 0 + 0 ≤ 0 → Calls Try.prog f #[.slice none 0 0, .int .i64 ((0 : Nat) : Int)] w fun e w' => e = .returned (.slice none 0 0) ∧ w' = w)
    (hQ : Q (.slice none 0 0) h) : CallsV Try.prog f [.slice none 0 0, .int .i64 ((0 : Nat) : Int)] h Q := by
  refine CallsV.of_calls (fun ι us hu => ?_) (fun ι => .closed rfl) (fun w _ => ?_) hQ
  · cases hu with
    | cons h1 h2 =>
      cases h2 with
      | cons h2 h3 => cases h3; rw [h1.closed_eq rfl, h2.closed_eq rfl]
  · refine (hc w (by omega) (by omega) (by omega) (by omega)).mono ?_
    rintro e w' ⟨rfl, rfl⟩
    exact ⟨rfl, Below.refl _ _⟩
theorem growI_c {n : Nat} {h : Heap} {Q : Value → Heap → Prop} (hn : n ≤ 1000000) (hQ : ∀ v h', Sep h h' [ownA (α := Int) 3 [] v] → Q v h') :
    CallsV Try.prog 128 [.slice none 0 0, .int .i64 (n : Int)] h Q := by
  rcases Nat.eq_zero_or_pos n with rfl | hp
  · exact room_nil (Any8.slices_Grow_room growI none 0 0 0) (hQ _ _ ((Sep.nil (.refl h)).nilA _))
  · refine grow_nil (k := _) tk3 hp (grow_of growI tk3 hp (by simp only []; omega) (by omega)) (hQ _ _ ?_)
    exact Sep_room (Sep.nil (.refl h)) _ (by rw [rep_length]; rfl)
theorem growB_c {n : Nat} {h : Heap} {α : Type} [Rep α] {Q : Value → Heap → Prop} (hs : Rep.sz α = 3) (hn : n ≤ 1000000) (hQ : ∀ v h', Sep h h' [ownA (α := α) 42 [] v] → Q v h') :
    CallsV Try.prog 85 [.slice none 0 0, .int .i64 (n : Int)] h Q := by
  rcases Nat.eq_zero_or_pos n with rfl | hp
  · exact room_nil (Any8.slices_Grow_room growB none 0 0 0) (hQ _ _ ((Sep.nil (.refl h)).nilA _))
  · refine grow_nil (k := _) tk42 hp (grow_of growB tk42 hp (by simp only []; omega) (by omega)) (hQ _ _ ?_)
    exact Sep_room (Sep.nil (.refl h)) _ (by rw [rep_length, hs]; rfl)
end Go.Proofs

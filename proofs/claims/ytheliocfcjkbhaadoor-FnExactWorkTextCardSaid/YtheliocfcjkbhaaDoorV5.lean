/- The layer V, part 5: each operation against the machine. -/
import Derived.Test.YtheliocfcjkbhaaDoorV4
set_option linter.all false
namespace Go.V
open Go Go.RowKit
variable {P : Program} [Laid P] {B0 : Nat} {ι : List Place} {h : Heap} {w : World}

theorem madeCells_rep (z : Array Value) (n : Nat) : (madeCells z (n * z.size)).toList = rep n z.toList := zeroCells_rep z n

theorem makeSlice_sound (r : Rel P B0 ι h w) {t : TypeId} {l c ul uc v : Value} {h' : Heap} (hl : VR ι l ul) (hc : VR ι c uc) (hm : makeSliceV P t l c h = some (v, h')) : Lands P B0 ι w (Instr.makeSlice t ul uc) v h' := by
  unfold makeSliceV at hm
  split at hm
  · rename_i kl l kc c
    have := hl.int_eq; subst this
    have := hc.int_eq; subst this
    simp only [Option.bind_eq_some_iff] at hm
    obtain ⟨el, hel, k, hk, hm⟩ := hm
    have ht := tElem_some hel
    obtain ⟨i, z, d, hi, hd, hz, hzc, hsz, hby, hcl, hzl, hs0, hb0, _, _, _⟩ := tk_info hk
    split at hm
    · rename_i hcond
      simp only [Option.some.injEq, Prod.mk.injEq] at hm
      obtain ⟨rfl, rfl⟩ := hm
      obtain ⟨h0, h1, h2⟩ := hcond
      have hb : (i.bytes : Int) * c ≤ 140737488355328 := by rw [hby, Int.mul_comm]; exact h2
      have hcb : c ≤ c * k.bytes := by
        have : (1 : Int) ≤ k.bytes := by omega
        calc c = c * 1 := by omega
          _ ≤ c * k.bytes := Int.mul_le_mul_of_nonneg_left this (by omega)
      have hrun := run_make (P := P) w t el i z ht hi hz kl kc l c h0 h1 (by omega) (by omega)
      have hzsz : z.cells.size = i.size := by rw [← Array.length_toList, hzc, hzl, hsz]
      have hcells : madeCells z.cells (c.toNat * i.size) = (rep c.toNat k.zero).toArray := by
        apply Array.ext'
        rw [← hzsz, madeCells_rep, hzc]
      rw [hcells] at hrun
      have hn := r.new (ex := true) hk (L2.closed (ι := ι) (closed_rep (n := c.toNat) hcl))
      refine ⟨_, _, _, hrun, ?_, hn, List.prefix_append _ _, Below.of_alloc r.base _⟩
      refine .one (.flat (.base ?_))
      by_cases hc0 : c.toNat = 0
      · have hl0 : l.toNat = 0 := by omega
        rw [hc0, hl0]
        exact .slice0 (p := ⟨w.heap.size, 0, 0⟩) (by rw [← r.len]; simp) (.inl rfl)
      · have := BR.slice (ι := ι ++ [⟨w.heap.size, 0, 0⟩]) (b := h.length) (off := 0) (len := l.toNat) (cap := c.toNat) (p := ⟨w.heap.size, 0, 0⟩) (by rw [← r.len]; simp) (by omega)
        simpa using this
    · simp at hm
  · simp at hm

/-! ### parts -/
theorem foldl_put (off : Nat) : ∀ (l : List Value) (cs : Array Value) (j : Nat), off + j + l.length ≤ cs.size →
    ((l.zipIdx j).foldl (fun cs (x : Value × Nat) => cs.setIfInBounds (off + x.2) x.1) cs).toList = putCells cs.toList (off + j) l := by
  intro l
  induction l with
  | nil => intro cs j _; simp [putCells]
  | cons v l ih =>
    intro cs j hj
    simp only [List.length_cons] at hj
    simp only [List.zipIdx_cons, List.foldl_cons]
    rw [ih (cs.setIfInBounds (off + j) v) (j + 1) (by simp; omega)]
    simp only [Array.toList_setIfInBounds]
    apply List.ext_getElem?
    intro i
    have hl1 : off + (j + 1) + l.length ≤ (cs.toList.set (off + j) v).length := by simp; omega
    have hl2 : off + j + (v :: l).length ≤ cs.toList.length := by simp; omega
    by_cases h1 : off + (j + 1) ≤ i ∧ i < off + (j + 1) + l.length
    · rw [putCells_in hl1 h1.1 h1.2, putCells_in hl2 (by omega) (by simp; omega)]
      rw [show i - (off + j) = (i - (off + (j + 1))) + 1 from by omega]
      simp
    · rw [putCells_out hl1 (by omega)]
      by_cases h2 : i = off + j
      · subst h2
        rw [putCells_in hl2 (by omega) (by simp)]
        have : off + j < cs.size := by omega
        simp [this]
      · rw [putCells_out hl2 (by simp; omega), List.getElem?_set, if_neg (by omega)]

theorem fill_sound {place : Nat → Option (Nat × Nat)} : ∀ {parts uparts : List (Nat × Value)} {cells cs : List Value} {ucells : Array Value}, L2 (fun a b : Nat × Value => a.1 = b.1 ∧ VR ι a.2 b.2) parts uparts → L2 (FR ι) cells ucells.toList →
    fillV place cells parts = some cs → ∃ us : Array Value, Instr.fill place ucells uparts = some us ∧ L2 (FR ι) cs us.toList := by
  intro parts
  induction parts with
  | nil =>
    intro uparts cells cs ucells hp hc hf
    cases hp
    simp [fillV] at hf; subst hf
    exact ⟨ucells, rfl, hc⟩
  | cons x rest ih =>
    intro uparts cells cs ucells hp hc hf
    obtain ⟨i, v⟩ := x
    cases hp with
    | @cons _ b _ m hr hrest =>
      obtain ⟨i', u⟩ := b
      obtain ⟨rfl, hv⟩ := hr
      simp only [] at hv
      simp only [fillV] at hf
      split at hf
      · rename_i off size ccs hpl hcv
        split at hf
        · rename_i hcond
          obtain ⟨hlen, hfit⟩ := hcond
          obtain ⟨hl2, hle⟩ := cellsV_inv hv hcv
          have hcl := hc.length
          simp only [Array.length_toList] at hcl
          have hput : (u.cells.zipIdx.foldl (fun cs (x : Value × Nat) => cs.setIfInBounds (off + x.2) x.1) ucells).toList = putCells ucells.toList off u.cells.toList := by
            rw [← Array.foldl_toList, Array.toList_zipIdx]
            exact foldl_put off u.cells.toList ucells 0 (by simp; omega)
          have hnext : L2 (FR ι) (putCells cells off ccs) (u.cells.zipIdx.foldl (fun cs (x : Value × Nat) => cs.setIfInBounds (off + x.2) x.1) ucells).toList := by
            rw [hput]
            unfold putCells
            have e : u.cells.toList.length = ccs.length := hl2.length.symm
            rw [e]
            exact ((hc.take off).append hl2).append (hc.drop _)
          obtain ⟨us, hus, hr⟩ := ih hrest hnext hf
          refine ⟨us, ?_, hr⟩
          simp only [Instr.fill, hpl]
          rw [if_neg]
          · exact hus
          · simp; omega
        · simp at hf
      · simp at hf

end Go.V

/- The layer V, part 7: building, slicing, operators, conversions. -/
import Derived.Test.YtheliocfcjkbhaaDoorV6
import Derived.Laws.Slices
set_option linter.all false
namespace Go.V
open Go Go.RowKit
variable {P : Program} [Laid P] {B0 : Nat} {ι : List Place} {h : Heap} {w : World}

theorem alloc_sound (r : Rel P B0 ι h w) {t : TypeId} {k : TK} (hk : tk P t = some k) :
    Lands P B0 ι w (Instr.alloc t true (.tuple #[])) (.pointer (some ⟨h.length, 0, none⟩)) (h ++ [some ⟨k.zero, t, false, true⟩]) := by
  obtain ⟨i, z0, d, hi, hd, hz0, hzc0, hsz, hby, hcl, hzl, hs0, hb0, hkd, hag, hfok⟩ := tk_info hk
  obtain ⟨z, hz, hzr⟩ := run_zeroValue hk
  have hn := r.new (ex := true) hk (L2.closed (ι := ι) hcl)
  refine ⟨.pointer (some ⟨w.heap.size, 0, none⟩), _, _, ?_, ?_, hn, List.prefix_append _ _, Below.of_alloc r.base _⟩
  · simp [Instr.alloc, hzr, newVar, newRow, ← hz]
  · exact .one (.flat (.base (BR.ptr (p := ⟨w.heap.size, 0, 0⟩) (by rw [← r.len]; simp))))

theorem box_sound (r : Rel P B0 ι h w) {t : TypeId} {k : TK} (hk : tk P t = some k) {x ux : Value} {cs : List Value} (hx : VR ι x ux) (hc : cellsV x = some cs) :
    Lands P B0 ι w (Instr.box t ux) (.pointer (some ⟨h.length, 0, none⟩)) (h ++ [some ⟨cs, t, false, true⟩]) := by
  obtain ⟨h1, h2⟩ := cellsV_inv hx hc
  have hn := r.new (ex := true) hk h1
  refine ⟨.pointer (some ⟨w.heap.size, 0, none⟩), _, _, ?_, ?_, hn, List.prefix_append _ _, Below.of_alloc r.base _⟩
  · simp [Instr.box, newVar, newRow]
  · exact .one (.flat (.base (BR.ptr (p := ⟨w.heap.size, 0, 0⟩) (by rw [← r.len]; simp))))

theorem run_mapM_list {P : Program} {α β : Type} {F : α → Sem β} {g : α → β} : ∀ (l : List α) (w : World), (∀ a ∈ l, ∀ w, (F a).run P w = .ok (g a) w) → (l.mapM F).run P w = .ok (l.map g) w := by
  intro l
  induction l with
  | nil => intro w _; rfl
  | cons a l ih =>
    intro w hl
    simp [List.mapM_cons, hl a (by simp), ih w (fun b hb => hl b (by simp [hb]))]

theorem run_mapM_arr {P : Program} {α β : Type} {F : α → Sem β} {g : α → β} (l : Array α) (w : World) (hl : ∀ a ∈ l.toList, ∀ w, (F a).run P w = .ok (g a) w) : (l.mapM F).run P w = .ok (l.map g) w := by
  rw [Array.mapM_eq_mapM_toList]
  simp [run_mapM_list l.toList w hl]
  apply Array.ext'
  simp

theorem zeros_closed {k : TK} {t : Nat} (hk : tk P t = some k) {z : Value} (hz : z.cells.toList = k.zero) : L2 (FR ι) k.zero z.cells.toList := by
  obtain ⟨i, z0, d, hi, hd, hz0, hzc0, hsz, hby, hcl, hzl, hs0, hb0, hkd, hag, hfok⟩ := tk_info hk
  rw [hz]; exact L2.closed hcl

theorem build_sound {t : Nat} {parts uparts : List (Nat × Value)} {v : Value} (hp : L2 (fun a b : Nat × Value => a.1 = b.1 ∧ VR ι a.2 b.2) parts uparts) (hv : buildV P t parts = some v) :
    ∃ u, (∀ w : World, (Instr.build t uparts.toArray).run P w = .ok u w) ∧ VR ι v u := by
  unfold buildV at hv
  simp only [Option.bind_eq_some_iff] at hv
  obtain ⟨k, hk, hv⟩ := hv
  obtain ⟨z, hz, hzr⟩ := run_zeroValue hk
  obtain ⟨i, z0, d, hi, hd, hz0, hzc0, hsz, hby, hcl, hzl, hs0, hb0, hkd, hag, hfok⟩ := tk_info hk
  split at hv
  · rename_i h6
    split at hv
    · simp at hv
    · rename_i hf
      simp only [Bool.not_eq_true', Bool.not_eq_false] at hf
      simp only [Option.map_eq_some_iff] at hv
      obtain ⟨cs, hfill, rfl⟩ := hv
      obtain ⟨fs, rfl⟩ : ∃ fs, d = .struct fs := by
        rw [hkd] at h6
        cases d <;> simp_all [kindOf]
      have hpl : ∀ j x, fieldPl P t j = some x → (fs.map fun f => (f.offset, ((P.info? f.type).map (·.size)).getD 0))[j]? = some x := by
        intro j x hx
        unfold fieldPl at hx
        simp only [Option.bind_eq_some_iff, Option.map_eq_some_iff] at hx
        obtain ⟨⟨o, ft⟩, h1, kf, h2, rfl⟩ := hx
        obtain ⟨fs', fl, h3, h4, h5⟩ := tField_some h1
        rw [hd] at h3
        simp only [Option.some.injEq, TypeDesc.struct.injEq] at h3
        subst h3
        simp only [Prod.mk.injEq] at h5
        obtain ⟨rfl, rfl⟩ := h5
        obtain ⟨i2, _, _, hi2, _, _, _, hsz2, _⟩ := tk_info h2
        simp [h4, hi2, hsz2]
      have hfill2 : ∀ (parts : List (Nat × Value)) (cells : List Value), fillV (fieldPl P t) cells parts = some cs → fillV (fun j => (fs.map fun f => (f.offset, ((P.info? f.type).map (·.size)).getD 0))[j]?) cells parts = some cs := by
        intro parts
        induction parts with
        | nil => intro cells h; simpa [fillV] using h
        | cons x rest ih =>
          intro cells h
          obtain ⟨j, v⟩ := x
          simp only [fillV] at h ⊢
          split at h
          · rename_i off size ccs h1 h2
            rw [hpl j _ h1, h2]
            simp only []
            split at h
            · rename_i hc
              rw [if_pos hc]; exact ih _ h
            · simp at h
          · simp at h
      obtain ⟨us, hus, hr⟩ := fill_sound hp (zeros_closed (ι := ι) hk hz) (hfill2 _ _ hfill)
      refine ⟨.agg us, fun w => ?_, by have := VR.one (AR.agg hr); simpa using this⟩
      have hm := run_mapM_arr (P := P) (F := fun f : Field => do pure (f.offset, ← sizeOf f.type)) (g := fun f => (f.offset, ((P.info? f.type).map (·.size)).getD 0)) fs w (by
        intro f hfm w
        obtain ⟨i, hi⟩ := Option.isSome_iff_exists.1 (hfok hf fs rfl f hfm)
        simp [sizeOf, typeInfo, hi])
      simp only [Instr.build, Sem.run_bind, hzr, Result.andThen_ok, run_underlying hd]
      rw [hm]
      simp only [Result.andThen_ok]
      rw [hus]
      rfl
  · simp only [Option.bind_eq_some_iff, Option.map_eq_some_iff] at hv
    obtain ⟨⟨n, el⟩, hel, ke, hke, cs, hfill, rfl⟩ := hv
    have ht := tArr_some hel
    obtain ⟨us, hus, hr⟩ := fill_sound hp (zeros_closed (ι := ι) hk hz) hfill
    refine ⟨.agg us, fun w => ?_, by have := VR.one (AR.agg hr); simpa using this⟩
    simp only [Instr.build, Sem.run_bind, hzr, Result.andThen_ok, run_underlying ht, run_sizeOf hke]
    simp [hus]

theorem buildSlice_sound (r : Rel P B0 ι h w) {t n : Nat} {parts uparts : List (Nat × Value)} {v : Value} {h' : Heap} (hp : L2 (fun a b : Nat × Value => a.1 = b.1 ∧ VR ι a.2 b.2) parts uparts)
    (hv : buildSliceV P t n parts h = some (v, h')) : Lands P B0 ι w (Instr.buildSlice t n uparts.toArray) v h' := by
  unfold buildSliceV at hv
  simp only [Option.bind_eq_some_iff] at hv
  obtain ⟨el, hel, k, hk, hv⟩ := hv
  have ht := tElem_some hel
  obtain ⟨z, hz, hzr⟩ := run_zeroValue hk
  obtain ⟨i, z0, d, hi, hd, hz0, hzc0, hsz, hby, hcl, hzl, hs0, hb0, hkd, hag, hfok⟩ := tk_info hk
  split at hv
  · rename_i hle
    simp only [Option.map_eq_some_iff, Prod.mk.injEq] at hv
    obtain ⟨cs, hfill, rfl, rfl⟩ := hv
    have hzs : z.cells.size = k.size := by rw [← Array.length_toList, hz, hzl]
    have hz2 : ((Array.range (n * k.size)).map (z.cells[· % z.cells.size]!)).toList = rep n k.zero := by
      rw [← hz, ← hzs]; exact madeCells_rep z.cells n
    have hz1 : L2 (FR ι) (rep n k.zero) ((Array.range (n * k.size)).map (z.cells[· % z.cells.size]!)).toList := by
      rw [hz2]; exact L2.closed (closed_rep hcl)
    obtain ⟨us, hus, hr⟩ := fill_sound hp hz1 hfill
    have hn := r.new (ex := true) hk hr
    refine ⟨.slice (some ⟨w.heap.size, 0, none⟩) n n, _, _, ?_, ?_, hn, List.prefix_append _ _, Below.of_alloc r.base _⟩
    · have hle' : ¬ (2 ^ 24 < n * k.size) := by omega
      by_cases h0 : n * k.size = 0
      · simp only [Instr.buildSlice, Sem.run_bind, run_underlying ht, Result.andThen_ok, run_sizeOf hk]
        have hr0 : ((Array.range (n * k.size)).map ((#[] : Array Value)[· % (#[] : Array Value).size]!)) = ((Array.range (n * k.size)).map (z.cells[· % z.cells.size]!)) := by rw [h0]; simp
        simp only [if_neg hle', h0, if_true]
        simp only [h0] at hus hr0
        simp [← hr0] at hus
        simp [hus, newRow]
      · simp only [Instr.buildSlice, Sem.run_bind, run_underlying ht, Result.andThen_ok, run_sizeOf hk, gt_iff_lt]
        simp only [if_neg hle', if_neg h0, Sem.run_bind, hzr, Result.andThen_ok, Sem.run_pure]
        simp [hus, newRow]
    · refine .one (.flat (.base ?_))
      by_cases hn0 : n = 0
      · subst hn0
        exact .slice0 (p := ⟨w.heap.size, 0, 0⟩) (by rw [← r.len]; simp) (.inl rfl)
      · have := BR.slice (ι := ι ++ [⟨w.heap.size, 0, 0⟩]) (b := h.length) (off := 0) (len := n) (cap := n) (p := ⟨w.heap.size, 0, 0⟩) (by rw [← r.len]; simp) (by omega)
        simpa using this
  · simp at hv

end Go.V

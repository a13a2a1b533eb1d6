/- The layer V, part 20: arguments that came in, read. -/
import Derived.Test.YtheliocfcjkbhaaDoorV19
import Derived.ChangeArms
import Derived.DataElems
set_option linter.all false
namespace Go.V
open Go Go.RowKit

/-- What came in: blocks that nothing writes. -/
structure RO (W : World) (h : Heap) (ι : List Place) : Prop where
  len : ι.length = h.length
  blk : ∀ b k p, getB h b = some k → ι[b]? = some p → k.ro = true ∧ ∃ (arr : Array Value) (fz : Nat × Nat), W.heap[p.blk]? = some (.cells arr k.ty fz) ∧ (∀ i v, k.cells[i]? = some v → ∃ u, arr[p.base + i]? = some u ∧ FR ι v u)

theorem RO.nil (W : World) : RO W [] [] := ⟨rfl, fun b k p h => by simp [getB] at h⟩
theorem RO.rel {P : Program} [Laid P] {W : World} {h : Heap} {ι : List Place} (r : RO W h ι) (hg : ∀ w', Below W.heap.size W w' → Laid.G P w') : Rel P W.heap.size ι h W := by
  refine ⟨r.len, Nat.le_refl _, hg, fun b k p hb hp => ?_, fun b b' k k' p p' hb _ hp _ hk => ?_⟩
  · obtain ⟨h1, arr, fz, h2, h3⟩ := r.blk b k p hb hp
    refine ⟨arr, fz, h2, h3, fun _ => ?_, fun h => by rw [h1] at h; simp at h⟩
    exact (Array.getElem?_eq_some_iff.1 h2).1
  · have := (r.blk b k p hb hp).1
    rw [this] at hk; simp at hk

theorem ext_prefix {h h' : Heap} (hp : h <+: h') : Ext h h' := by
  obtain ⟨g, rfl⟩ := hp; exact .app h g

/-- These cells are read as an α. -/
def Opens (α : Type) [Rep α] (W : World) (cs : List Value) : Prop :=
  ∀ h ι, RO W h ι → ∃ (x : α) (h' : Heap) (ι' : List Place) (vcs : List Value), RO W h' ι' ∧ h <+: h' ∧ ι <+: ι' ∧ Here h' x vcs ∧ L2 (BR ι') vcs cs

theorem Opens.pair {α β : Type} [Rep α] [Rep β] {W : World} {c1 c2 : List Value} (h1 : Opens α W c1) (h2 : Opens β W c2) : Opens (α × β) W (c1 ++ c2) := by
  intro h ι r
  obtain ⟨x, ha, ιa, va, ra, pa, qa, ⟨fa, ea⟩, la⟩ := h1 h ι r
  obtain ⟨y, hb, ιb, vb, rb, pb, qb, ⟨fb, eb⟩, lb⟩ := h2 ha ιa ra
  refine ⟨(x, y), hb, ιb, va ++ vb, rb, pa.trans pb, qa.trans qb, ⟨fa ++ fb, va, vb, fa, fb, rfl, rfl, Rep.frame ea fun b hb' => (ext_prefix pb).eq b (Rep.live ea b hb'), eb⟩, ?_⟩
  exact (la.imp fun _ _ hr => BR.pre qb hr).append lb
theorem Opens.iso {α β : Type} [Rep α] (f : β → α) (g : α → β) (hg : ∀ a, f (g a) = a) {W : World} {cs : List Value} (h1 : Opens α W cs) : @Opens β (Rep.iso f) W cs := by
  intro h ι r
  obtain ⟨x, h', ι', vcs, r', p, q, ⟨fp, e⟩, l⟩ := h1 h ι r
  refine ⟨g x, h', ι', vcs, r', p, q, ⟨fp, ?_⟩, l⟩
  show Rep.rep h' (f (g x)) vcs fp
  rw [hg]; exact e

/-- The kinds of data that an argument is made of. -/
class ArgT (α : Type) [Rep α] where
  ty : Program → TypeId → Prop
  opens : ∀ {H : Type} {enc : TypeId × Value → H} {P : Program} {W : World} {fuel : Nat} {t : TypeId} {cs : List Value} {x : DataW H × List MemPlace}, ty P t → DataW.trod enc P W 0 (fun _ => true) true fuel t cs = some x → Opens α W cs

instance : ArgT Int where
  ty := fun P t => P.underlying t = some (.int .i64)
  opens := by
    intro H enc P W fuel t cs x ht h
    obtain ⟨n, rfl, _, hw⟩ := DataW.trod_int ht h
    intro h ι r
    refine ⟨n, h, ι, [.int .i64 n], r, List.prefix_rfl, List.prefix_rfl, ⟨[], rfl, rfl, ?_⟩, .cons (.int _ _) .nil⟩
    simp [Lit.wf, IntKind.min, IntKind.max, IntKind.signed, IntKind.bits] at hw
    unfold inI64; omega
instance : ArgT UInt8 where
  ty := fun P t => P.underlying t = some (.int .u8)
  opens := by
    intro H enc P W fuel t cs x ht h
    obtain ⟨n, rfl, _, hw⟩ := DataW.trod_int ht h
    intro h ι r
    simp [Lit.wf, IntKind.min, IntKind.max, IntKind.signed, IntKind.bits] at hw
    refine ⟨UInt8.ofNat n.toNat, h, ι, [.int .u8 n], r, List.prefix_rfl, List.prefix_rfl, ⟨[], ?_, rfl⟩, .cons (.int _ _) .nil⟩
    have : ((UInt8.ofNat n.toNat).toNat : Int) = n := by rw [UInt8.toNat_ofNat']; omega
    rw [this]
instance : ArgT Bool where
  ty := fun P t => P.underlying t = some .bool
  opens := by
    intro H enc P W fuel t cs x ht h
    obtain ⟨b, rfl, _⟩ := DataW.trod_bool ht h
    intro h ι r
    exact ⟨b, h, ι, [.bool b], r, List.prefix_rfl, List.prefix_rfl, ⟨[], rfl, rfl⟩, .cons (.bool _) .nil⟩
instance : ArgT ByteArray where
  ty := fun P t => P.underlying t = some .string
  opens := by
    intro H enc P W fuel t cs x ht h
    obtain ⟨s, rfl, _, hs⟩ := DataW.trod_string ht h
    intro h' ι r
    exact ⟨s, h', ι, [.string s], r, List.prefix_rfl, List.prefix_rfl, ⟨[], rfl, rfl, by unfold maxLen at hs; omega⟩, .cons (.string _) .nil⟩

/-- The elements of a row, one behind the other. -/
theorem opens_cells {α : Type} [Rep α] {W : World} {arr : List Value} (off : Nat) : ∀ n : Nat, (∀ i, i < n → Opens α W ((arr.drop (off + i * Rep.sz α)).take (Rep.sz α))) → off + n * Rep.sz α ≤ arr.length →
    ∀ h ι, RO W h ι → ∃ (l : List α) (h' : Heap) (ι' : List Place) (vcs : List Value) (fps : List (List Nat)), RO W h' ι' ∧ h <+: h' ∧ ι <+: ι' ∧ Cells h' l vcs fps ∧ l.length = n ∧ L2 (BR ι') vcs ((arr.drop off).take (n * Rep.sz α)) := by
  intro n
  induction n with
  | zero => intro _ _ h ι r; exact ⟨[], h, ι, [], [], r, List.prefix_rfl, List.prefix_rfl, ⟨rfl, rfl⟩, rfl, by simpa using L2.nil⟩
  | succ n ih =>
    intro ho hl h ι r
    have hm : (n + 1) * Rep.sz α = n * Rep.sz α + Rep.sz α := Nat.succ_mul _ _
    obtain ⟨l, h1, ι1, vcs, fps, r1, p1, q1, c1, e1, l1⟩ := ih (fun i hi => ho i (by omega)) (by omega) h ι r
    obtain ⟨x, h2, ι2, v2, r2, p2, q2, ⟨f2, c2⟩, l2⟩ := ho n (by omega) h1 ι1 r1
    refine ⟨l ++ [x], h2, ι2, vcs ++ v2, fps ++ [f2], r2, p1.trans p2, q1.trans q2, (c1.frame fun b hb => (ext_prefix p2).eq b (c1.live b hb)).append (Cells.one c2), by simp [e1], ?_⟩
    have := (l1.imp fun _ _ hr => BR.pre q2 hr).append l2
    have e : (arr.drop off).take ((n + 1) * Rep.sz α) = (arr.drop off).take (n * Rep.sz α) ++ (arr.drop (off + n * Rep.sz α)).take (Rep.sz α) := by
      rw [hm, List.take_add, List.drop_drop]
    rw [e]; exact this

theorem cell?_inv {w : World} {a : Addr} {v : Value} (h : w.cell? a = some v) : ∃ arr ty fz, w.heap[a.block]? = some (.cells arr ty fz) ∧ a.spot = none ∧ arr[a.off]? = some v := by
  unfold World.cell? at h
  split at h
  · rename_i c ty fz hc
    refine ⟨c, ty, fz, hc, ?_⟩
    cases hs : a.spot with
    | none => rw [hs] at h; exact ⟨rfl, by simpa using h⟩
    | some _ => rw [hs] at h; simp at h
  · simp at h
theorem cell?_of {w : World} {b off : Nat} {arr : Array Value} {ty : TypeId} {fz : Nat × Nat} (hb : w.heap[b]? = some (.cells arr ty fz)) : w.cell? ⟨b, off, none⟩ = arr[off]? := by
  unfold World.cell?; simp only [hb]; rfl

instance {α : Type} [Rep α] [ArgT α] : ArgT (List α) where
  ty := fun P t => ∃ e, P.underlying t = some (.slice e) ∧ P.cellsOf e = Rep.sz α ∧ 0 < Rep.sz α ∧ ArgT.ty α P e
  opens := by
    intro H enc P W fuel t cs x ⟨e, ht, hsz, hpos, hty⟩ hx
    rcases DataW.trod_slice ht hx with ⟨rfl, _⟩ | ⟨a, len, cap, elems, rest, n, _, rfl, _, hb, hl, hm, hlen, hel, hsp, _⟩
    · intro h ι r
      exact ⟨[], h, ι, [.slice none 0 0], r, List.prefix_rfl, List.prefix_rfl, ⟨[], _, rfl, .inl ⟨rfl, rfl⟩, by simp, .inl ⟨rfl, rfl⟩⟩, .cons .nils .nil⟩
    · -- what every element's cells are
      have hget : ∀ i, i < cap → ∃ cs', W.cells? 0 (a.add (i * Rep.sz α)) (Rep.sz α) = some cs' ∧ (i < len → Opens α W cs') := by
        intro i hi
        by_cases hil : i < len
        · have := hel i hil
          rw [List.getElem?_eq_getElem (by omega)] at this
          obtain ⟨cs', h1, h2⟩ := Option.bind_eq_some_iff.1 this
          rw [hsz] at h1
          exact ⟨cs', h1, fun _ => ArgT.opens hty h2⟩
        · have h0 := hsp rfl
          have := h0.2 (i - len) (by omega)
          rw [show len + (i - len) = i by omega, List.getElem?_eq_getElem (by omega)] at this
          obtain ⟨cs', h1, h2⟩ := Option.bind_eq_some_iff.1 this
          rw [hsz] at h1
          exact ⟨cs', h1, fun h => absurd h hil⟩
      intro h ι r
      by_cases hc : cap = 0
      · obtain rfl : len = 0 := by omega
        subst hc
        refine ⟨[], h ++ [none], ι ++ [⟨0, 0, 0⟩], [.slice (some ⟨h.length, 0, none⟩) 0 0], ?_, List.prefix_append _ _, List.prefix_append _ _, ⟨[], _, rfl, .inr ⟨_, _, _, rfl, Nat.le_refl _⟩, by simp, .inl ⟨rfl, rfl⟩⟩, .cons (.slice0 (p := ⟨0, 0, 0⟩) (by rw [← r.len]; simp) (.inl rfl)) .nil⟩
        refine ⟨by simp [r.len], fun b k p hb hp => ?_⟩
        by_cases hlt : b < h.length
        · rw [getB_append_left hlt] at hb
          obtain ⟨g1, arr, fz, g2, g3⟩ := r.blk b k p hb (by rwa [List.getElem?_append_left (by rw [r.len]; exact hlt)] at hp)
          refine ⟨g1, arr, fz, g2, fun i v hv => ?_⟩
          obtain ⟨u, hu, hr⟩ := g3 i v hv
          exact ⟨u, hu, hr.pre (List.prefix_append _ _)⟩
        · exfalso
          by_cases he : b = h.length
          · subst he; simp [getB] at hb
          · have := getB_lt hb; simp at this; omega
      · obtain ⟨cs0, h0, _⟩ := hget 0 (by omega)
        obtain ⟨_, hl0, hc0⟩ := World.cells?_some h0
        have hcell := hc0 0 hpos
        rw [List.getElem?_eq_getElem (by omega)] at hcell
        obtain ⟨arr, ty, fz, hblk, hspot, _⟩ := cell?_inv hcell
        obtain ⟨ab, ao, as⟩ := a
        simp only [Nat.zero_mul, Addr.add, if_true] at hblk hspot
        subst hspot
        have hcs : ∀ i cs', W.cells? 0 (Addr.add ⟨ab, ao, none⟩ (i * Rep.sz α)) (Rep.sz α) = some cs' → cs' = (arr.toList.drop (ao + i * Rep.sz α)).take (Rep.sz α) ∧ ao + i * Rep.sz α + Rep.sz α ≤ arr.size := by
          intro i cs' hh
          obtain ⟨_, hl1, hc1⟩ := World.cells?_some hh
          have hc2 : ∀ j, j < Rep.sz α → arr[ao + i * Rep.sz α + j]? = cs'[j]? := by
            intro j hj
            have := hc1 j hj
            rw [show Addr.add (Addr.add ⟨ab, ao, none⟩ (i * Rep.sz α)) j = ⟨ab, ao + i * Rep.sz α + j, none⟩ by unfold Addr.add; split <;> split <;> simp_all [Nat.add_assoc]] at this
            rw [cell?_of hblk] at this; exact this
          have hle : ao + i * Rep.sz α + Rep.sz α ≤ arr.size := by
            have := hc2 (Rep.sz α - 1) (by omega)
            rw [List.getElem?_eq_getElem (by omega)] at this
            have := (Array.getElem?_eq_some_iff.1 this).1
            omega
          refine ⟨?_, hle⟩
          apply List.ext_getElem?
          intro j
          rw [List.getElem?_take]
          split
          · rename_i hj
            rw [List.getElem?_drop, ← hc2 j hj]; simp
          · rw [List.getElem?_eq_none_iff]; omega
        have hfit : ao + cap * Rep.sz α ≤ arr.size := by
          obtain ⟨cs', h1, _⟩ := hget (cap - 1) (by omega)
          have := (hcs _ _ h1).2
          have hs : cap * Rep.sz α = (cap - 1) * Rep.sz α + Rep.sz α := by rw [← Nat.succ_mul]; congr 1; omega
          omega
        have hlc : len * Rep.sz α ≤ cap * Rep.sz α := Nat.mul_le_mul_right _ hl
        obtain ⟨l, h', ι', vcs, fps, r', p', q', c', e', l'⟩ := opens_cells (α := α) (W := W) (arr := arr.toList) ao len (fun i hi => by
          obtain ⟨cs', h1, h2⟩ := hget i (by omega)
          rw [← (hcs _ _ h1).1]; exact h2 hi) (by simp; omega) h ι r
        have hvl := c'.length
        refine ⟨l, h' ++ [some ⟨vcs, ty, true, false⟩], ι' ++ [⟨ab, ao, cap - len⟩], [.slice (some ⟨h'.length, 0, none⟩) len len], ?_, p'.trans (List.prefix_append _ _), q'.trans (List.prefix_append _ _), ?_, ?_⟩
        · refine ⟨by simp [r'.len], fun b k p hb hp => ?_⟩
          rcases getB_append_cases hb with ⟨hlt, hb⟩ | ⟨rfl, rfl⟩
          · obtain ⟨g1, arr, fz, g2, g3⟩ := r'.blk b k p hb (by rwa [List.getElem?_append_left (by rw [r'.len]; exact hlt)] at hp)
            refine ⟨g1, arr, fz, g2, fun i v hv => ?_⟩
            obtain ⟨u, hu, hr⟩ := g3 i v hv
            exact ⟨u, hu, hr.pre (List.prefix_append _ _)⟩
          · rw [← r'.len] at hp
            simp at hp; subst hp
            refine ⟨rfl, arr, fz, hblk, fun i v hv => ?_⟩
            obtain ⟨u, hu, hr⟩ := l'.get i v hv
            refine ⟨u, ?_, .base (hr.pre (List.prefix_append _ _))⟩
            rw [List.getElem?_take] at hu
            split at hu
            · rw [List.getElem?_drop] at hu; simpa using hu
            · simp at hu
        · refine ⟨h'.length :: fps.flatten, _, rfl, .inr ⟨_, _, _, by rw [e'], by omega⟩, by unfold maxLen at hm; omega, .inr ⟨vcs, fps, by simp, ?_, rfl, c'.frame fun b hb => getB_append_left (c'.live b hb)⟩⟩
          simp only [rowB, rowO]
          rw [cellsAt_of getB_append_new (by simp only []; omega)]
          simp [List.take_of_length_le (Nat.le_of_eq hvl.1)]
        · have hp : (ι' ++ [(⟨ab, ao, cap - len⟩ : Place)])[h'.length]? = some ⟨ab, ao, cap - len⟩ := by rw [← r'.len]; simp
          by_cases hl0 : len = 0
          · subst hl0
            exact .cons (.slice0 hp (.inr ⟨by simp, by simp⟩)) .nil
          · have := BR.slice (ι := ι' ++ [(⟨ab, ao, cap - len⟩ : Place)]) (b := h'.length) (off := 0) (len := len) (cap := len) hp (by omega)
            rw [show len + (⟨ab, ao, cap - len⟩ : Place).slack = cap by simp only []; omega] at this
            exact .cons this .nil
end Go.V

/- The layer V, part 10: conversions, copy, max, min. -/
import Derived.Test.YtheliocfcjkbhaaDoorV9
import Derived.Lib.ConvBytes
import Derived.Laws.BytesString
set_option linter.all false
namespace Go.V
open Go Go.RowKit
variable {P : Program} [Laid P] {B0 : Nat} {ι : List Place} {h : Heap} {w : World}

theorem tk_under {t : TypeId} {k : TK} (hk : tk P t = some k) : ∃ d, P.underlying t = some d := by
  obtain ⟨i, z, d, hi, hd, _⟩ := tk_info hk
  exact ⟨d, hd⟩

/-- A world with one block more. -/
theorem Rel.newW (r : Rel P B0 ι h w) {w' : World} {cs : List Value} {arr : Array Value} {fz : Nat × Nat} {t slack : Nat} {k : TK} {ex : Bool} (hk : tk P t = some k) (hBel : Below B0 w w') (hsz : w'.heap.size = w.heap.size + 1) (hold : ∀ j, j < w.heap.size → w'.heap[j]? = w.heap[j]?)
    (hnew : w'.heap[w.heap.size]? = some (.cells arr t fz)) (hfz : ∀ i, i < arr.size → ¬ (fz.1 ≤ i ∧ i < fz.2)) (hcs : ∀ (i : Nat) v, cs[i]? = some v → ∃ u, arr[i]? = some u ∧ FR ι v u) (hlen : arr.size = cs.length + slack * k.size) (hex : ex = true → slack = 0) :
    Rel P B0 (ι ++ [⟨w.heap.size, 0, slack⟩]) (h ++ [some ⟨cs, t, false, ex⟩]) w' := by
  generalize hq : (⟨w.heap.size, 0, slack⟩ : Place) = q
  have hpre : ι <+: ι ++ [q] := List.prefix_append _ _
  have holdp : ∀ b p, b < h.length → (ι ++ [q])[b]? = some p → ι[b]? = some p := by
    intro b p hb hp
    rwa [List.getElem?_append_left (by rw [r.len]; exact hb)] at hp
  have hnewp : ∀ p, (ι ++ [q])[h.length]? = some p → p = q := by
    intro p hp
    rw [← r.len] at hp
    simpa using hp.symm
  have hlt : ∀ b k p, getB h b = some k → ι[b]? = some p → p.blk < w.heap.size := by
    intro b k p hb hp
    obtain ⟨arr, fz, hh, _⟩ := r.blk b k p hb hp
    exact (Array.getElem?_eq_some_iff.1 hh).1
  refine ⟨by simp [r.len], by have := r.base; omega, fun w2 hB => r.glob w2 (hBel.trans hB), ?_, ?_⟩
  · intro b kb p hb hp
    rcases getB_append_cases hb with ⟨hb1, hb2⟩ | ⟨rfl, rfl⟩
    · have hp := holdp b p hb1 hp
      obtain ⟨arr, fz, hh, h1, h2, h3⟩ := r.blk b kb p hb2 hp
      refine ⟨arr, fz, ?_, fun i v hv => ?_, h2, h3⟩
      · rw [hold _ (Array.getElem?_eq_some_iff.1 hh).1]; exact hh
      · obtain ⟨u, hu, hr⟩ := h1 i v hv; exact ⟨u, hu, hr.pre hpre⟩
    · have := hnewp p hp
      subst this; subst hq
      refine ⟨arr, fz, hnew, fun i v hv => ?_, by simp, fun _ => ⟨r.base, hfz, ⟨k, hk, by simpa using hlen⟩, hex⟩⟩
      obtain ⟨u, hu, hr⟩ := hcs i v hv
      exact ⟨u, by simpa using hu, hr.pre hpre⟩
  · intro b b' kb kb' p p' hb hb' hp hp' hro hro' he
    rcases getB_append_cases hb with ⟨hb1, hb2⟩ | ⟨rfl, rfl⟩ <;> rcases getB_append_cases hb' with ⟨hb1', hb2'⟩ | ⟨rfl, rfl⟩
    · exact r.inj b b' kb kb' p p' hb2 hb2' (holdp b p hb1 hp) (holdp b' p' hb1' hp') hro hro' he
    · have := hlt b kb p hb2 (holdp b p hb1 hp)
      rw [hnewp p' hp'] at he; subst hq; simp at he; omega
    · have := hlt b' kb' p' hb2' (holdp b' p' hb1' hp')
      rw [hnewp p hp] at he; subst hq; simp at he; omega
    · rfl

theorem bytesV_eq : ∀ {cs us : List Value} {bs : List UInt8}, L2 (FR ι) cs us → bytesV cs = some bs → ∃ ns : List Int, us = ns.map (Value.int .u8) ∧ bs = ns.map fun n => UInt8.ofNat n.toNat := by
  intro cs
  induction cs with
  | nil =>
    intro us bs hl hb
    cases hl
    simp [bytesV] at hb; subst hb
    exact ⟨[], rfl, rfl⟩
  | cons v cs ih =>
    intro us bs hl hb
    cases hl with
    | @cons _ u _ m hr hrest =>
      unfold bytesV at hb
      split at hb
      · rename_i heq; simp at heq
      · rename_i n l heq
        simp only [List.cons.injEq] at heq
        obtain ⟨rfl, rfl⟩ := heq
        simp only [Option.map_eq_some_iff] at hb
        obtain ⟨bs', hb', rfl⟩ := hb
        obtain ⟨ns, rfl, rfl⟩ := ih hrest hb'
        have : u = .int .u8 n := FR.closed_eq rfl hr
        subst this
        exact ⟨n :: ns, rfl, rfl⟩
      · simp at hb

theorem foldl_push (ns : List Int) : ∀ s : ByteArray, ns.foldl (fun r n => r.push (UInt8.ofNat n.toNat)) s = ⟨(s.data.toList ++ ns.map fun n => UInt8.ofNat n.toNat).toArray⟩ := by
  induction ns with
  | nil => intro s; simp
  | cons n ns ih =>
    intro s
    rw [List.foldl_cons, ih]
    simp [ByteArray.push]

theorem conv_sound (r : Rel P B0 ι h w) {s t : TypeId} {x ux v : Value} {h' : Heap} (hx : VR ι x ux) (hv : convV P s t x h = some (v, h')) : Lands P B0 ι w (convert s t ux) v h' := by
  unfold convV at hv
  split at hv
  · rename_i k n
    have := hx.int_eq; subst this
    simp only [Option.bind_eq_some_iff, Option.map_eq_some_iff, Prod.mk.injEq] at hv
    obtain ⟨ks, hks, kt, hkt, rfl, rfl⟩ := hv
    obtain ⟨d, hd⟩ := tk_under hks
    have ht := tInt_some hkt
    refine Lands.same r (u := .int kt (kt.wrap n)) ?_ (.closed rfl)
    simp [convert, run_underlying hd, run_underlying ht, Conv.intToInt]
  · rename_i b
    have := hx.string_eq; subst this
    split at hv
    · rename_i hc
      simp only [Option.some.injEq, Prod.mk.injEq] at hv
      obtain ⟨rfl, rfl⟩ := hv
      refine Lands.same r (u := .string b) ?_ (.closed rfl)
      simp [convert, run_underlying (kind_str hc.1), run_underlying (kind_str hc.2)]
    · simp only [Option.bind_eq_some_iff] at hv
      obtain ⟨el, hel, hv⟩ := hv
      split at hv
      · rename_i hc
        obtain ⟨h1, h2, h3⟩ := hc
        simp only [Option.some.injEq, Prod.mk.injEq] at hv
        obtain ⟨rfl, rfl⟩ := hv
        obtain ⟨k, hk⟩ : ∃ k, tk P el = some k := by
          cases hh : tk P el with
          | none => simp [hh] at h3
          | some k => exact ⟨k, rfl⟩
        have hks : k.size = 1 := by simpa [hk] using h3
        have hrun := Lib.run_convert_string_bytes w s t el b (kind_str h1) (tElem_some hel) (tInt_some h2)
        have hg := grownCap_ge w b.size 0 el
        have hbs : (Lib.bytesCells w el b).size = b.size + (grownCap w b.size 0 el - b.size) := by simp [Lib.bytesCells]
        have hR := r.newW (w' := Lib.bytesWorld w el b) (cs := b.data.toList.map fun c => Value.int .u8 c.toNat) (slack := grownCap w b.size 0 el - b.size) (ex := false) hk ⟨rfl, rfl, rfl, by rw [Lib.bytesWorld_size]; omega, fun j hj => Lib.bytesWorld_at_old w el b j (by have := r.base; omega)⟩ (Lib.bytesWorld_size w el b) (fun j hj => Lib.bytesWorld_at_old w el b j hj) (Lib.bytesWorld_at_new w el b)
          (fun i hi => by omega) (fun i v hv => by
            refine ⟨v, ?_, .closed ?_⟩
            · rw [List.getElem?_map] at hv
              have hi : i < b.data.size := by
                rcases Nat.lt_or_ge i b.data.size with h | h
                · exact h
                · simp [Array.getElem?_eq_none h] at hv
              rw [Lib.bytesCells, Array.getElem?_append_left (by simpa using hi)]
              simpa using hv
            · rw [List.getElem?_map] at hv
              simp only [Option.map_eq_some_iff] at hv
              obtain ⟨_, _, rfl⟩ := hv
              rfl) (by rw [hbs, hks]; simp) (by simp)
        refine ⟨_, _, _, hrun, ?_, hR, List.prefix_append _ _, ⟨rfl, rfl, rfl, by rw [Lib.bytesWorld_size]; omega, fun j hj => Lib.bytesWorld_at_old w el b j (by have := r.base; omega)⟩⟩
        refine .one (.flat (.base ?_))
        have hget : (ι ++ [(⟨w.heap.size, 0, grownCap w b.size 0 el - b.size⟩ : Place)])[h.length]? = some ⟨w.heap.size, 0, grownCap w b.size 0 el - b.size⟩ := by rw [← r.len]; simp
        by_cases h0 : b.size = 0
        · rw [h0] at hget ⊢
          exact .slice0 hget (.inr ⟨rfl, by simp⟩)
        · have := BR.slice (off := 0) (len := b.size) (cap := b.size) hget (by omega)
          have e : b.size + (grownCap w b.size 0 el - b.size) = grownCap w b.size 0 el := by omega
          simpa [e] using this
      · simp at hv
  · rename_i A len cap
    simp only [Option.bind_eq_some_iff] at hv
    obtain ⟨el, hel, hv⟩ := hv
    have ht := tElem_some hel
    split at hv
    · rename_i hc
      obtain ⟨h1, h2, h3⟩ := hc
      simp only [Option.bind_eq_some_iff, Option.map_eq_some_iff, Prod.mk.injEq] at hv
      obtain ⟨cs, hcs, bs, hbs, rfl, rfl⟩ := hv
      have hcv : ∀ a l c (w : World), (convert s t (.slice a l c)).run P w = (Conv.bytesToString (.slice a l c)).run P w := fun a l c w => by
        simp [convert, run_underlying ht, run_underlying (kind_str h3), run_underlying (tInt_some h1)]
      cases BR.of_flat (hx.flat_inv trivial) (by simp) with
      | nils =>
        simp [rowV] at hcs; subst hcs
        simp [bytesV] at hbs; subst hbs
        refine Lands.same r (u := .string ⟨#[]⟩) ?_ (.closed rfl)
        rw [hcv]; rfl
      | @slice b off _ _ p hp hc =>
        simp only [rowV, Nat.mul_one] at hcs
        by_cases hn0 : len = 0
        · subst hn0
          rw [if_pos rfl] at hcs
          simp only [Option.some.injEq] at hcs
          subst hcs
          simp [bytesV] at hbs; subst hbs
          refine Lands.same r (u := .string ⟨#[]⟩) ?_ (.closed rfl)
          rw [hcv]
          simp [Conv.bytesToString, loadCells, loadCellsFrom]
          rfl
        rw [if_neg hn0] at hcs
        obtain ⟨us, g1, g2, g3⟩ := r.cells hcs hp
        obtain ⟨ns, rfl, rfl⟩ := bytesV_eq g1 hbs
        refine Lands.same r ?_ (.closed (v := .string ⟨(ns.map fun n => UInt8.ofNat n.toNat).toArray⟩) rfl)
        have hl : ns.length = len := by have := g1.length; simp at this; omega
        rw [hcv]
        have := run_bytesToString (P := P) w ⟨p.blk, p.base + off, none⟩ len (cap + p.slack) ns (by rw [← hl]; have := run_loadCells_list (P := P) w _ _ g3; simpa using this)
        rw [this, foldl_push]
        rfl
      | @slice0 b off a c p hp hc =>
        simp only [rowV, if_true, Option.some.injEq] at hcs
        subst hcs
        simp [bytesV] at hbs; subst hbs
        refine Lands.same r (u := .string ⟨#[]⟩) ?_ (.closed rfl)
        rw [hcv]
        simp [Conv.bytesToString, loadCells, loadCellsFrom]
        rfl
    · simp at hv
  · simp at hv

theorem copy_sound (r : Rel P B0 ι h w) {t t2 ty : TypeId} {d s ud us v : Value} {h' : Heap} (hd : VR ι d ud) (hs : VR ι s us) (hv : copyV P t d s h = some (v, h')) : Lands P B0 ι w (Builtin.copy_ #[t, t2] ty #[ud, us]) v h' := by
  unfold copyV at hv
  simp only [Option.bind_eq_some_iff] at hv
  obtain ⟨el, hel, k, hk, hv⟩ := hv
  have ht := tElem_some hel
  cases d with
  | slice A len cap =>
    simp only [Option.bind_eq_some_iff] at hv
    obtain ⟨n, hn, new, hnew, hv⟩ := hv
    obtain ⟨news, hl, hnl, hfc, hlo⟩ := r.row (size := k.size) hs hn (Nat.min_le_left n len) hnew
    have hrun : ∀ A' c', (Builtin.copy_ #[t, t2] ty #[.slice A' len c', us]).run P w = (match A' with | some a => (storeCells a news 0).run P w | none => .ok () w).andThen fun _ w' => .ok (.int .i64 (min n len : Nat)) w' := by
      intro A' c'
      have hmin : Nat.min n len = min n len := rfl
      cases A' <;> simp [Builtin.copy_, run_underlying ht, run_sizeOf hk, hlo, hmin, hfc w rfl, goInt]
    have hfs := BR.of_flat (hd.flat_inv trivial) (by simp)
    cases hfs with
    | nils =>
      simp only [] at hv
      split at hv
      · rename_i h0
        simp only [Option.some.injEq, Prod.mk.injEq] at hv
        obtain ⟨rfl, rfl⟩ := hv
        refine Lands.same r ?_ (.closed (v := .int .i64 0) rfl)
        rw [hrun]; simp
      · simp at hv
    | @slice b off _ _ p hp hc =>
      simp only [] at hv
      split at hv
      · rename_i h0
        simp only [Option.some.injEq, Prod.mk.injEq] at hv
        obtain ⟨rfl, rfl⟩ := hv
        refine Lands.same r ?_ (.closed (v := .int .i64 0) rfl)
        have : news = [] := by
          have := hl.length
          rw [hnl, h0] at this
          simpa using this.symm
        subst this
        rw [hrun, h0]; rfl
      · simp only [Option.map_eq_some_iff, Prod.mk.injEq] at hv
        obtain ⟨h1, hw, rfl, rfl⟩ := hv
        obtain ⟨w', hr, hR, hB⟩ := r.write hw hp hl
        refine ⟨_, w', ι, ?_, .closed (v := .int .i64 (min n len : Nat)) rfl, hR, List.prefix_rfl, hB⟩
        rw [hrun]; simp only []; rw [hr]; rfl
    | @slice0 b off a c p hp hc =>
      simp only [Nat.min_zero, if_true] at hv
      simp only [Option.some.injEq, Prod.mk.injEq] at hv
      obtain ⟨rfl, rfl⟩ := hv
      refine Lands.same r ?_ (.closed (v := .int .i64 0) rfl)
      have : news = [] := by
        have := hl.length
        rw [hnl] at this
        simpa using this.symm
      subst this
      rw [hrun]; simp [storeCells]
  | _ => simp at hv

end Go.V

/- The layer V, part 4: append, copy, make and the like against the machine. -/
import Derived.Test.YtheliocfcjkbhaaDoorV3
set_option linter.all false
namespace Go.V
open Go Go.RowKit
variable {P : Program} [Laid P] {B0 : Nat} {ι : List Place} {h : Heap} {w : World}

theorem cellsAt_length {b off n : Nat} {cs : List Value} (hc : cellsAt h b off n = some cs) : cs.length = n := by
  unfold cellsAt at hc
  split at hc
  · split at hc
    · simp only [Option.some.injEq] at hc
      rw [← hc]; simp; omega
    · simp at hc
  · simp at hc

theorem closed_bytes (l : List UInt8) : (l.map fun b => Value.int .u8 b.toNat).all closed1 = true := by simp [closed1]

/-- The cells that an append or a copy takes. -/
theorem Rel.row (r : Rel P B0 ι h w) {size n m : Nat} {x u : Value} {new : List Value} (hx : VR ι x u) (hl : lenV x = some m) (hnm : n ≤ m) (hr : rowV h size n x = some new) :
    ∃ news : List Value, L2 (FR ι) new news ∧ new.length = n * size ∧ (∀ w2 : World, w2.heap = w.heap → (Builtin.firstCells size n u).run P w2 = .ok news.toArray w2) ∧ (∀ w2 : World, (Builtin.lenOf u).run P w2 = .ok m w2) := by
  cases x with
  | slice A len cap =>
    simp [lenV] at hl; subst hl
    have hf := hx.flat_inv trivial
    cases hf with
    | base hb =>
      cases hb with
      | nils =>
        simp [rowV] at hr; subst hr
        have : n = 0 := by omega
        subst this
        exact ⟨[], .nil, by simp, fun w2 _ => by simp [Builtin.firstCells], fun w2 => by simp [Builtin.lenOf]⟩
      | @slice b off len cap p hp hc =>
        simp only [rowV] at hr
        by_cases hn0 : n = 0
        · subst hn0
          rw [if_pos rfl] at hr
          simp only [Option.some.injEq] at hr
          subst hr
          exact ⟨[], .nil, by simp, fun w2 _ => by simp [Builtin.firstCells, loadCells, loadCellsFrom], fun w2 => by simp [Builtin.lenOf]⟩
        rw [if_neg hn0] at hr
        obtain ⟨us, h1, h2, h3⟩ := r.cells hr hp
        refine ⟨us, h1, by rw [h2], fun w2 hw2 => ?_, fun w2 => by simp [Builtin.lenOf]⟩
        refine run_firstCells_some w2 size n _ _ _ us (by rw [← h1.length, h2]) fun j v hj => ?_
        rw [← h3 j v hj]
        unfold World.cell?; rw [hw2]
      | @slice0 b off a c p hp hc =>
        have : n = 0 := by omega
        subst this
        simp only [rowV, if_true, Option.some.injEq] at hr
        subst hr
        exact ⟨[], .nil, by simp, fun w2 _ => by simp [Builtin.firstCells, loadCells, loadCellsFrom], fun w2 => by simp [Builtin.lenOf]⟩
  | string s =>
    have := hx.string_eq
    subst this
    simp [lenV] at hl; subst hl
    simp only [rowV] at hr
    split at hr
    · rename_i h1
      subst h1
      simp only [Option.some.injEq] at hr
      subst hr
      refine ⟨_, L2.closed (closed_bytes _), ?_, fun w2 _ => ?_, fun w2 => by simp [Builtin.lenOf]⟩
      · have h1 : (s.extract 0 n).size = n := by rw [ByteArray.size_extract]; omega
        rw [List.length_map, Array.length_toList]
        show (s.extract 0 n).size = n * 1
        omega
      · show Result.ok _ w2 = _
        congr 1
        apply Array.ext'
        simp only [Array.toList_map]
    · simp at hr
  | _ => simp [lenV] at hl

/-- Several worlds with one heap. -/
theorem Rel.killed (r : Rel P B0 ι h w) (b : Nat) : Rel P B0 ι (h.set b none) w := by
  by_cases hb : b < h.length
  · refine ⟨by simpa using r.len, r.base, r.glob, fun c k p hc hp => ?_, fun c c' k k' p p' hc hc' hp hp' h1 h2 he => ?_⟩
    · rw [getB_set hb] at hc
      split at hc
      · simp at hc
      · exact r.blk c k p hc hp
    · rw [getB_set hb] at hc hc'
      split at hc
      · simp at hc
      · split at hc'
        · simp at hc'
        · exact r.inj c c' k k' p p' hc hc' hp hp' h1 h2 he
  · rw [List.set_eq_of_length_le (by omega)]; exact r

theorem killB_length {b : Nat} : (killB h b).length = h.length := by
  unfold killB
  split
  · split <;> simp
  · rfl

theorem Rel.killB (r : Rel P B0 ι h w) (b : Nat) : Rel P B0 ι (killB h b) w := by
  unfold V.killB
  split
  · split
    · exact r.killed b
    · exact r
  · exact r


/-- What one step owes: a value, a heap, a world. -/
def Lands (P : Program) [Laid P] (B0 : Nat) (ι : List Place) (w : World) (s : Sem Value) (v : Value) (h' : Heap) : Prop :=
  ∃ u w' ι', s.run P w = .ok u w' ∧ VR ι' v u ∧ Rel P B0 ι' h' w' ∧ ι <+: ι' ∧ Below B0 w w'

theorem Lands.same {s : Sem Value} {v u : Value} (r : Rel P B0 ι h w) (hs : s.run P w = .ok u w) (hv : VR ι v u) : Lands P B0 ι w s v h :=
  ⟨u, w, ι, hs, hv, r, List.prefix_rfl, Below.refl _ _⟩


/-- The new row of an append that makes one. -/
theorem Rel.grown (r : Rel P B0 ι h w) {cs us z : List Value} {t m g : Nat} {k : TK} (hk : tk P t = some k) (hl : L2 (FR ι) cs us) (hz : z.length = k.size) (hm : cs.length = m * k.size) (h0 : 0 < m) (hg : m ≤ g) :
    VR (ι ++ [⟨w.heap.size, 0, g - m⟩]) (.slice (some ⟨h.length, 0, none⟩) m m) (.slice (some ⟨w.heap.size, 0, none⟩) m g) ∧
    Rel P B0 (ι ++ [⟨w.heap.size, 0, g - m⟩]) (h ++ [some ⟨cs, t, false, false⟩]) (w.alloc (.cells (us ++ rep (g - m) z).toArray t)) := by
  constructor
  · refine .one (.flat (.base ?_))
    have := BR.slice (ι := ι ++ [⟨w.heap.size, 0, g - m⟩]) (b := h.length) (off := 0) (len := m) (cap := m) (p := ⟨w.heap.size, 0, g - m⟩) (by rw [← r.len]; simp) h0
    have e : m + (g - m) = g := by omega
    simpa [e] using this
  have hpre : ι <+: ι ++ [(⟨w.heap.size, 0, g - m⟩ : Place)] := List.prefix_append _ _
  have hold : ∀ b p, b < h.length → (ι ++ [(⟨w.heap.size, 0, g - m⟩ : Place)])[b]? = some p → ι[b]? = some p := by
    intro b p hb hp
    rwa [List.getElem?_append_left (by rw [r.len]; exact hb)] at hp
  have hnew : ∀ p, (ι ++ [(⟨w.heap.size, 0, g - m⟩ : Place)])[h.length]? = some p → p = ⟨w.heap.size, 0, g - m⟩ := by
    intro p hp
    rw [← r.len] at hp
    simpa using hp.symm
  have hlt : ∀ b k p, getB h b = some k → ι[b]? = some p → p.blk < w.heap.size := by
    intro b k p hb hp
    obtain ⟨arr, fz, hh, _⟩ := r.blk b k p hb hp
    exact (Array.getElem?_eq_some_iff.1 hh).1
  refine ⟨by simp [r.len], by have := r.base; simp; omega, fun w2 hB => r.glob w2 ((Below.of_alloc r.base _).trans hB), ?_, ?_⟩
  · intro b kb p hb hp
    rcases getB_append_cases hb with ⟨hb1, hb2⟩ | ⟨rfl, rfl⟩
    · have hp := hold b p hb1 hp
      obtain ⟨arr, fz, hh, h1, h2, h3⟩ := r.blk b kb p hb2 hp
      refine ⟨arr, fz, ?_, fun i v hv => ?_, h2, h3⟩
      · rw [Below.heap_alloc _ _ _ (Array.getElem?_eq_some_iff.1 hh).1]; exact hh
      · obtain ⟨u, hu, hr⟩ := h1 i v hv; exact ⟨u, hu, hr.pre hpre⟩
    · have := hnew p hp
      subst this
      refine ⟨(us ++ rep (g - m) z).toArray, (0, 0), heap_alloc_new _ _, fun i v hv => ?_, by simp, fun _ => ⟨r.base, fun i _ => by simp, ⟨k, hk, by simp [← hl.length, rep_length, hz]⟩, by simp⟩⟩
      obtain ⟨u, hu, hr⟩ := hl.get i v hv
      refine ⟨u, ?_, hr.pre hpre⟩
      have hi : i < us.length := (List.getElem?_eq_some_iff.1 hu).1
      simp only [Nat.zero_add, List.getElem?_toArray]
      rw [List.getElem?_append_left hi]; exact hu
  · intro b b' kb kb' p p' hb hb' hp hp' hro hro' he
    rcases getB_append_cases hb with ⟨hb1, hb2⟩ | ⟨rfl, rfl⟩ <;> rcases getB_append_cases hb' with ⟨hb1', hb2'⟩ | ⟨rfl, rfl⟩
    · exact r.inj b b' kb kb' p p' hb2 hb2' (hold b p hb1 hp) (hold b' p' hb1' hp') hro hro' he
    · have := hlt b kb p hb2 (hold b p hb1 hp)
      rw [hnew p' hp'] at he; simp at he; omega
    · have := hlt b' kb' p' hb2' (hold b' p' hb1' hp')
      rw [hnew p hp] at he; simp at he; omega
    · rfl

/-- An append that finds room where the abstract one makes a new row: the old one is left behind. -/
theorem Rel.inplace (r : Rel P B0 ι h w) {b off cap len n : Nat} {blk : Blk} {olds new news : List Value} {p : Place} {k : TK} (hk : tk P blk.ty = some k) (hb : getB h b = some blk) (hp : ι[b]? = some p)
    (hro : blk.ro = false) (hfit : off + cap * k.size = blk.cells.length) (hle : len ≤ cap) (holds : cellsAt h b off (len * k.size) = some olds) (hl : L2 (FR ι) new news) (hn : new.length = n * k.size)
    (hroom : len + n ≤ cap + p.slack) (h0 : 0 < len + n) :
    ∃ w', (storeCells ⟨p.blk, p.base + off + len * k.size, none⟩ news 0).run P w = .ok () w' ∧
      VR (ι ++ [⟨p.blk, p.base + off, cap + p.slack - (len + n)⟩]) (.slice (some ⟨h.length, 0, none⟩) (len + n) (len + n)) (.slice (some ⟨p.blk, p.base + off, none⟩) (len + n) (cap + p.slack)) ∧
      Rel P B0 (ι ++ [⟨p.blk, p.base + off, cap + p.slack - (len + n)⟩]) (h.set b none ++ [some ⟨olds ++ new, blk.ty, false, false⟩]) w' ∧ Below B0 w w' := by
  obtain ⟨arr, fz, hh, hcell, _, hown⟩ := r.blk b blk p hb hp
  obtain ⟨hB, hfz, ⟨tk', htk, hsz⟩, hex⟩ := hown hro
  rw [hk] at htk; simp only [Option.some.injEq] at htk; subst htk
  have hmul : (len + n) * k.size ≤ (cap + p.slack) * k.size := Nat.mul_le_mul_right _ hroom
  have hm1 : (len + n) * k.size = len * k.size + n * k.size := Nat.add_mul _ _ _
  have hm2 : (cap + p.slack) * k.size = cap * k.size + p.slack * k.size := Nat.add_mul _ _ _
  obtain ⟨w', arr', hr, hg', hsz', hout, hin, hoth, hws, ho, ht, hpp⟩ := run_storeCells_row (P := P) p.blk (p.base + off + len * k.size) blk.ty fz news 0 w arr hh (by rw [← hl.length, hn]; omega) hfz (L2.one hl)
  generalize hq : (⟨p.blk, p.base + off, cap + p.slack - (len + n)⟩ : Place) = q
  have hpre : ι <+: ι ++ [q] := List.prefix_append _ _
  have hbl := getB_lt hb
  have hold : ∀ c pc, c < h.length → (ι ++ [q])[c]? = some pc → ι[c]? = some pc := by
    intro c pc hc hpc
    rwa [List.getElem?_append_left (by rw [r.len]; exact hc)] at hpc
  have hnew : ∀ pc, (ι ++ [q])[h.length]? = some pc → pc = q := by
    intro pc hpc
    rw [← r.len] at hpc
    simpa using hpc.symm
  have hBel : Below B0 w w' := ⟨ho, ht, hpp, by omega, fun i hi => hoth i (by omega)⟩
  refine ⟨w', hr, ?_, ⟨by simp [r.len], by rw [hws]; exact r.base, fun w2 hB => r.glob w2 (hBel.trans hB), ?_, ?_⟩, hBel⟩
  · refine .one (.flat (.base ?_))
    have := BR.slice (ι := ι ++ [q]) (b := h.length) (off := 0) (len := len + n) (cap := len + n) (p := q) (by rw [← r.len]; simp) h0
    subst hq
    have e : len + n + (cap + p.slack - (len + n)) = cap + p.slack := by omega
    simpa [e] using this
  · intro c kc pc hc hpc
    rcases getB_append_cases hc with ⟨hc1, hc2⟩ | ⟨hc1, rfl⟩
    · simp at hc1
      rw [getB_set hbl] at hc2
      split at hc2
      · simp at hc2
      · rename_i hne
        have hpc := hold c pc hc1 hpc
        obtain ⟨arr1, fz1, hh1, h1, h2, h3⟩ := r.blk c kc pc hc2 hpc
        refine ⟨arr1, fz1, ?_, fun i v hv => ?_, h2, h3⟩
        · rw [hoth _ ?_]; exact hh1
          intro he
          cases hcr : kc.ro with
          | true => have := h2 hcr; omega
          | false => exact hne (r.inj c b kc blk pc p hc2 hb hpc hp hcr hro he)
        · obtain ⟨u, hu, hr⟩ := h1 i v hv; exact ⟨u, hu, hr.pre hpre⟩
    · simp at hc1
      subst hc1
      have := hnew pc hpc
      subst this
      obtain ⟨us, hu1, hu2, hu3⟩ := r.cells holds hp
      have hul : us.length = len * k.size := by rw [← hu1.length]; exact hu2
      subst hq
      refine ⟨arr', fz, hg', fun i v hv => ?_, by simp, fun _ => ⟨hB, by rw [hsz']; exact hfz, ⟨k, hk, ?_⟩, by simp⟩⟩
      · simp only [] at hv ⊢
        rcases Nat.lt_or_ge i olds.length with hi | hi
        · rw [List.getElem?_append_left hi] at hv
          obtain ⟨u, hu, hru⟩ := hu1.get i v hv
          refine ⟨u, ?_, hru.pre hpre⟩
          have h5 := hu3 i u hu
          rw [addr_add, World.cell?, hh] at h5
          simp at h5
          rw [hout _ (by omega)]; exact h5
        · rw [List.getElem?_append_right hi] at hv
          obtain ⟨u, hu, hru⟩ := hl.get _ v hv
          refine ⟨u, ?_, hru.pre hpre⟩
          have h5 := hin _ u hu
          rw [← h5]; congr 1; omega
      · simp only [List.length_append]
        rw [hsz', hsz, hn, hu2, Nat.sub_mul]
        omega
  · intro c c' kc kc' pc pc' hc hc' hpc hpc' hro1 hro2 he
    have key : ∀ d kd pd, d ≠ h.length → getB (h.set b none ++ [some ⟨olds ++ new, blk.ty, false, false⟩]) d = some kd → (ι ++ [q])[d]? = some pd → d ≠ b ∧ getB h d = some kd ∧ ι[d]? = some pd := by
      intro d kd pd hd hgd hpd
      rcases getB_append_cases hgd with ⟨hd1, hd2⟩ | ⟨hd1, _⟩
      · simp at hd1
        rw [getB_set hbl] at hd2
        split at hd2
        · simp at hd2
        · rename_i hne; exact ⟨hne, hd2, hold d pd hd1 hpd⟩
      · simp at hd1; exact absurd hd1 hd
    by_cases e1 : c = h.length <;> by_cases e2 : c' = h.length
    · rw [e1, e2]
    · obtain ⟨x1, x2, x3⟩ := key c' kc' pc' e2 hc' hpc'
      subst e1
      have := hnew pc hpc
      subst this; subst hq
      exact absurd (r.inj c' b kc' blk pc' p x2 hb x3 hp hro2 hro he.symm) x1
    · obtain ⟨x1, x2, x3⟩ := key c kc pc e1 hc hpc
      subst e2
      have := hnew pc' hpc'
      subst this; subst hq
      exact absurd (r.inj c b kc blk pc p x2 hb x3 hp hro1 hro he) x1
    · obtain ⟨x1, x2, x3⟩ := key c kc pc e1 hc hpc
      obtain ⟨y1, y2, y3⟩ := key c' kc' pc' e2 hc' hpc'
      exact r.inj c c' kc kc' pc pc' x2 y2 x3 y3 hro1 hro2 he


theorem killB_ex {b : Nat} {blk : Blk} (hb : getB h b = some blk) (he : blk.ex = false) : killB h b = h.set b none := by
  unfold killB; rw [hb]; simp [he]

theorem grownCap_ge (w : World) (need old : Nat) (e : TypeId) : need ≤ grownCap w need old e := by
  exact Nat.le_add_right _ _

theorem append_sound (r : Rel P B0 ι h w) {t t2 ty : TypeId} {s us x ux v : Value} {h' : Heap} (hs : VR ι s us) (hx : VR ι x ux) (happ : appendV P t s x h = some (v, h'))
    (hk2 : (tk P t2).map (·.kind) = some 5 ∨ (tk P t2).map (·.kind) = some 3) : Lands P B0 ι w (Builtin.append_ #[t, t2] ty #[us, ux]) v h' := by
  obtain ⟨d2, hd2, hdn⟩ : ∃ d, P.underlying t2 = some d ∧ ∀ k, d ≠ .int k := by
    rcases hk2 with hk2 | hk2
    · exact kind_not_int hk2 (by decide)
    · exact kind_not_int hk2 (by decide)
  unfold appendV at happ
  simp only [Option.bind_eq_some_iff] at happ
  obtain ⟨el, hel, k, hk, happ⟩ := happ
  have ht := tElem_some hel
  obtain ⟨i, z, d, hi, hd, hz, hzc, hsz, hby, hcl, hzl, hs0, hb0, _, _, _⟩ := tk_info hk
  cases s with
  | slice A len cap =>
    simp only [Option.bind_eq_some_iff] at happ
    obtain ⟨n, hn, new, hnew, happ⟩ := happ
    obtain ⟨news, hl, hnl, hfc, hlo⟩ := r.row (size := k.size) hx hn (Nat.le_refl n) hnew
    have hfs := hs.flat_inv trivial
    split at happ
    · -- in place, told
      rename_i hle
      cases hfs with
      | base hb =>
        cases hb with
        | nils =>
          simp only [] at happ
          split at happ
          · rename_i hn0
            subst hn0
            simp only [Option.some.injEq, Prod.mk.injEq] at happ
            obtain ⟨rfl, rfl⟩ := happ
            refine Lands.same r (u := .slice none 0 0) ?_ hs
            rw [run_append_in w ht hd2 hdn hi none 0 0 0 ux news hlo (by rw [hsz]; exact hfc w rfl) (by omega)]
            rfl
          · simp at happ
        | @slice b off len cap p hp hc =>
          simp only [] at happ
          have hrun := run_append_in (ty := ty) w ht hd2 hdn hi (some ⟨p.blk, p.base + off, none⟩) len (cap + p.slack) n ux news hlo (by rw [hsz]; exact hfc w rfl) (by omega)
          simp only [addr_add] at hrun
          split at happ
          · rename_i hn0
            subst hn0
            simp only [Option.some.injEq, Prod.mk.injEq] at happ
            obtain ⟨rfl, rfl⟩ := happ
            have : news = [] := by
              have := hl.length
              rw [hnl] at this
              simpa using this.symm
            subst this
            exact Lands.same r hrun hs
          · simp only [Option.map_eq_some_iff, Prod.mk.injEq] at happ
            obtain ⟨h1, hw, rfl, rfl⟩ := happ
            obtain ⟨w', hr, hR, hB⟩ := r.write hw hp hl
            refine ⟨_, w', ι, ?_, .one (.flat (.base (.slice hp hc))), hR, List.prefix_rfl, hB⟩
            rw [hrun, hsz]
            rw [Nat.add_assoc, hr]
            rfl
        | @slice0 b off a c p hp hc =>
          have hn0 : n = 0 := by omega
          subst hn0
          simp only [if_true] at happ
          simp only [Option.some.injEq, Prod.mk.injEq] at happ
          obtain ⟨rfl, rfl⟩ := happ
          have : news = [] := by
            have := hl.length
            rw [hnl] at this
            simpa using this.symm
          subst this
          have hrun := run_append_in (ty := ty) w ht hd2 hdn hi (some a) 0 c 0 ux [] hlo (by rw [hsz]; exact hfc w rfl) (by omega)
          exact Lands.same r hrun hs
    · rename_i hle
      split at happ
      · rename_i hbig
        cases hfs with
        | base hb =>
          cases hb with
          | nils =>
            simp only [if_true] at happ
            simp only [Option.some.injEq, Prod.mk.injEq] at happ
            obtain ⟨rfl, rfl⟩ := happ
            have hrun := run_append_new (ty := ty) w ht hd2 hdn hi hz none 0 0 n ux [] news hlo (by rw [hsz]; exact hfc w.drew rfl) (by simp [Builtin.firstCells]) (by omega) (by rw [hby]; simpa using hbig) (by omega)
            simp only [List.nil_append, Nat.zero_add, hzc] at hrun
            have hg := grownCap_ge w n 0 el
            obtain ⟨h1, h2⟩ := r.drew.grown hk hl hzl hnl (by omega) hg
            exact ⟨_, _, _, hrun, h1, h2, List.prefix_append _ _, ((Below.refl B0 w).drew).trans (Below.of_alloc r.drew.base _)⟩
          | @slice b off len cap p hp hc =>
            simp only [Option.bind_eq_some_iff] at happ
            obtain ⟨blk, hb, happ⟩ := happ
            split at happ
            · rename_i hcond
              simp only [Bool.and_eq_true, Bool.not_eq_true', decide_eq_true_eq] at hcond
              obtain ⟨⟨⟨hro, hfit⟩, hlc⟩, hty⟩ := hcond
              subst hty
              simp only [Option.map_eq_some_iff, Prod.mk.injEq] at happ
              obtain ⟨old, hold, rfl, rfl⟩ := happ
              have hold' : cellsAt h b off (len * k.size) = some old := by
                simp only [rowV] at hold
                by_cases h0 : len = 0
                · subst h0
                  rw [if_pos rfl] at hold
                  simp only [Option.some.injEq] at hold
                  subst hold
                  unfold cellsAt
                  rw [hb]
                  simp only [Nat.zero_mul, List.take_zero]
                  rw [if_pos (by omega)]
                · rw [if_neg h0] at hold; exact hold
              by_cases hroom : len + n ≤ cap + p.slack
              · -- the machine has room
                have hex : blk.ex = false := by
                  obtain ⟨_, _, _, _, _, hown⟩ := r.blk b blk p hb hp
                  cases hx : blk.ex with
                  | false => rfl
                  | true => have := (hown hro).2.2.2 hx; omega
                obtain ⟨w', hr, hV, hR, hB⟩ := r.inplace (n := n) hk hb hp hro hfit hlc hold' hl hnl hroom (by omega)
                refine ⟨_, w', _, ?_, hV, by rw [killB_ex hb hex]; exact hR, List.prefix_append _ _, hB⟩
                have hrun := run_append_in (ty := ty) w ht hd2 hdn hi (some ⟨p.blk, p.base + off, none⟩) len (cap + p.slack) n ux news hlo (by rw [hsz]; exact hfc w rfl) (by omega)
                rw [hrun, hsz]
                simp only [addr_add]
                rw [hr]
                rfl
              · obtain ⟨olds, ho1, ho2, ho3, ho4⟩ := r.row (size := k.size) (x := .slice (some ⟨b, off, none⟩) len cap) hs rfl (Nat.le_refl len) hold
                have hrun := run_append_new (ty := ty) w ht hd2 hdn hi hz (some ⟨p.blk, p.base + off, none⟩) len (cap + p.slack) n ux olds news hlo (by rw [hsz]; exact hfc w.drew rfl) (by rw [hsz]; exact ho3 w.drew rfl) (by omega) (by rw [hby]; exact hbig) (by omega)
                have hg := grownCap_ge w (len + n) (cap + p.slack) blk.ty
                have hlen : (old ++ new).length = (len + n) * k.size := by simp [ho2, hnl, Nat.add_mul]
                obtain ⟨h1, h2⟩ := (r.drew.killB b).grown hk (ho1.append hl) hzl hlen (by omega) hg
                rw [hzc] at hrun
                exact ⟨_, _, _, hrun, by simpa [killB_length] using h1, h2, List.prefix_append _ _, ((Below.refl B0 w).drew).trans (Below.of_alloc r.drew.base _)⟩
            · simp at happ
          | @slice0 b off a c p hp hc =>
            simp only [Option.bind_eq_some_iff] at happ
            obtain ⟨blk, hb, happ⟩ := happ
            split at happ
            · rename_i hcond
              simp only [Bool.and_eq_true, Bool.not_eq_true', decide_eq_true_eq] at hcond
              obtain ⟨⟨⟨hro, hfit⟩, hlc⟩, hty⟩ := hcond
              subst hty
              simp only [Option.map_eq_some_iff, Prod.mk.injEq] at happ
              obtain ⟨old, hold, rfl, rfl⟩ := happ
              have hold' : cellsAt h b off (0 * k.size) = some old := by
                simp only [rowV, if_true, Option.some.injEq] at hold
                subst hold
                unfold cellsAt
                rw [hb]
                simp only [Nat.zero_mul, List.take_zero]
                rw [if_pos (by omega)]
              by_cases hroom : n ≤ c
              · rcases hc with rfl | ⟨rfl, rfl⟩
                · omega
                · have hex : blk.ex = false := by
                    obtain ⟨_, _, _, _, _, hown⟩ := r.blk b blk p hb hp
                    cases hx : blk.ex with
                    | false => rfl
                    | true => have := (hown hro).2.2.2 hx; omega
                  obtain ⟨w', hr, hV, hR, hB⟩ := r.inplace (n := n) (len := 0) (cap := 0) hk hb hp hro hfit (Nat.le_refl 0) hold' hl hnl (by omega) (by omega)
                  refine ⟨_, w', _, ?_, hV, by rw [killB_ex hb hex]; exact hR, List.prefix_append _ _, hB⟩
                  have hrun := run_append_in (ty := ty) w ht hd2 hdn hi (some ⟨p.blk, p.base + off, none⟩) 0 p.slack n ux news hlo (by rw [hsz]; exact hfc w rfl) (by omega)
                  rw [hrun, hsz]
                  simp only [addr_add]
                  rw [hr]
                  simp
              · obtain ⟨olds, ho1, ho2, ho3, ho4⟩ := r.row (size := k.size) (x := .slice (some ⟨b, off, none⟩) 0 0) hs rfl (Nat.le_refl 0) hold
                have hrun := run_append_new (ty := ty) w ht hd2 hdn hi hz (some a) 0 c n ux olds news hlo (by rw [hsz]; exact hfc w.drew rfl) (by rw [hsz]; exact ho3 w.drew rfl) (by omega) (by rw [hby]; exact hbig) (by omega)
                have hg := grownCap_ge w (0 + n) c blk.ty
                have hlen : (old ++ new).length = (0 + n) * k.size := by simp [ho2, hnl, Nat.add_mul]
                obtain ⟨h1, h2⟩ := (r.drew.killB b).grown hk (ho1.append hl) hzl hlen (by omega) hg
                rw [hzc] at hrun
                exact ⟨_, _, _, hrun, by simpa [killB_length] using h1, h2, List.prefix_append _ _, ((Below.refl B0 w).drew).trans (Below.of_alloc r.drew.base _)⟩
            · simp at happ
      · simp at happ
  | _ => simp at happ

end Go.V

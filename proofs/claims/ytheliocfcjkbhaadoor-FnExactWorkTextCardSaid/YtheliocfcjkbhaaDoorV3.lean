/- The layer V, part 3: what the heap's moves mean in the machine's memory. -/
import Derived.Test.YtheliocfcjkbhaaDoorV2
import Derived.Laws.Cells
import Derived.Laws.Append
import Derived.Laws.Rows
set_option linter.all false
namespace Go.V
open Go Go.RowKit

theorem getB_lt {h : Heap} {b : Nat} {k : Blk} (hb : getB h b = some k) : b < h.length := by
  unfold getB at hb
  cases hh : h[b]? with
  | none => simp [hh] at hb
  | some x => exact (List.getElem?_eq_some_iff.1 hh).1

theorem getB_append_left {h g : Heap} {b : Nat} (hb : b < h.length) : getB (h ++ g) b = getB h b := by
  simp [getB, List.getElem?_append_left hb]
theorem getB_append_new {h : Heap} {k : Blk} : getB (h ++ [some k]) h.length = some k := by simp [getB]
theorem getB_append_cases {h : Heap} {x k : Blk} {b : Nat} (hb : getB (h ++ [some x]) b = some k) : (b < h.length ∧ getB h b = some k) ∨ (b = h.length ∧ k = x) := by
  have hl := getB_lt hb
  simp at hl
  rcases Nat.lt_or_ge b h.length with hlt | hge
  · exact .inl ⟨hlt, by rwa [getB_append_left hlt] at hb⟩
  · have : b = h.length := by omega
    subst this
    rw [getB_append_new] at hb
    exact .inr ⟨rfl, by simpa using hb.symm⟩
theorem getB_set {h : Heap} {b c : Nat} {x : Option Blk} (hb : b < h.length) : getB (h.set b x) c = if c = b then x else getB h c := by
  unfold getB
  by_cases hc : c = b
  · subst hc; simp [hb]
  · simp [hc, List.getElem?_set, Ne.symm hc]

theorem addr_add (b o j : Nat) : (⟨b, o, none⟩ : Addr).add j = ⟨b, o + j, none⟩ := by
  unfold Addr.add
  split
  · rename_i h; subst h; rfl
  · rfl

variable {P : Program} [Laid P] {B0 : Nat} {ι : List Place} {h : Heap} {w : World}

theorem Rel.place (r : Rel P B0 ι h w) {b : Nat} (hb : b < h.length) : ∃ p, ι[b]? = some p := ⟨_, List.getElem?_eq_getElem (by rw [r.len]; exact hb)⟩

theorem Rel.place' (r : Rel P B0 ι h w) {b : Nat} {k : Blk} (hb : getB h b = some k) : ∃ p, ι[b]? = some p := r.place (getB_lt hb)

/-- Cells in a row, as the machine has them. -/
theorem Rel.cells (r : Rel P B0 ι h w) {b off n : Nat} {cs : List Value} {p : Place} (hc : cellsAt h b off n = some cs) (hp : ι[b]? = some p) :
    ∃ us : List Value, L2 (FR ι) cs us ∧ cs.length = n ∧ ∀ j v, us[j]? = some v → w.cell? ((⟨p.blk, p.base + off, none⟩ : Addr).add j) = some v := by
  unfold cellsAt at hc
  cases hk : getB h b with
  | none => simp [hk] at hc
  | some k =>
    simp only [hk] at hc
    split at hc
    · rename_i hle
      simp only [Option.some.injEq] at hc
      obtain ⟨arr, fz, hh, hcell, _, _⟩ := r.blk b k p hk hp
      have hlen : cs.length = n := by rw [← hc]; simp; omega
      have hat : ∀ j v, cs[j]? = some v → ∃ u, arr[p.base + (off + j)]? = some u ∧ FR ι v u := by
        intro j v hj
        refine hcell (off + j) v ?_
        rw [← hc] at hj
        rw [List.getElem?_take] at hj
        split at hj
        · simpa [List.getElem?_drop] using hj
        · simp at hj
      have hsz : n = 0 ∨ p.base + off + n ≤ arr.size := by
        by_cases hn : n = 0
        · exact .inl hn
        · obtain ⟨u, hu, _⟩ := hat (n - 1) _ (List.getElem?_eq_getElem (by omega))
          have := (Array.getElem?_eq_some_iff.1 hu).1
          exact .inr (by omega)
      refine ⟨(arr.toList.drop (p.base + off)).take n, L2.of_get (by simp; omega) (fun i a ha => ?_), hlen, fun j v hj => ?_⟩
      · obtain ⟨u, hu, hr⟩ := hat i a ha
        refine ⟨u, ?_, hr⟩
        have hi : i < n := by have := (List.getElem?_eq_some_iff.1 ha).1; omega
        rw [List.getElem?_take, if_pos hi, List.getElem?_drop, Array.getElem?_toList]
        rw [← hu]; congr 1; omega
      · rw [addr_add, World.cell?, hh]
        simp only [Option.isSome_none, Bool.false_eq_true, if_false]
        rw [List.getElem?_take] at hj
        split at hj
        · rw [List.getElem?_drop, Array.getElem?_toList] at hj
          exact hj
        · simp at hj
    · simp at hc

/-- One cell. -/
theorem Rel.cell (r : Rel P B0 ι h w) {b off : Nat} {k : Blk} {v : Value} {p : Place} (hk : getB h b = some k) (hc : k.cells[off]? = some v) (hp : ι[b]? = some p) :
    ∃ u, w.cell? ⟨p.blk, p.base + off, none⟩ = some u ∧ FR ι v u := by
  obtain ⟨arr, fz, hh, hcell, _, _⟩ := r.blk b k p hk hp
  obtain ⟨u, hu, hr⟩ := hcell off v hc
  exact ⟨u, by rw [World.cell?, hh]; simpa using hu, hr⟩

theorem Below.of_alloc {B0 : Nat} {w : World} (hB : B0 ≤ w.heap.size) (o : Obj) : Below B0 w (w.alloc o) := (Below.refl B0 w).alloc hB o

/-- A new block. -/
theorem Rel.new (r : Rel P B0 ι h w) {cs us : List Value} {t : TypeId} {k : TK} {ex : Bool} (hk : tk P t = some k) (hl : L2 (FR ι) cs us) :
    Rel P B0 (ι ++ [⟨w.heap.size, 0, 0⟩]) (h ++ [some ⟨cs, t, false, ex⟩]) (w.alloc (.cells us.toArray t)) := by
  have hpre : ι <+: ι ++ [(⟨w.heap.size, 0, 0⟩ : Place)] := List.prefix_append _ _
  have hold : ∀ b p, b < h.length → (ι ++ [(⟨w.heap.size, 0, 0⟩ : Place)])[b]? = some p → ι[b]? = some p := by
    intro b p hb hp
    rwa [List.getElem?_append_left (by rw [r.len]; exact hb)] at hp
  have hnew : ∀ p, (ι ++ [(⟨w.heap.size, 0, 0⟩ : Place)])[h.length]? = some p → p = ⟨w.heap.size, 0, 0⟩ := by
    intro p hp
    rw [← r.len] at hp
    simpa using hp.symm
  have hlt : ∀ b k p, getB h b = some k → ι[b]? = some p → p.blk < w.heap.size := by
    intro b k p hb hp
    obtain ⟨arr, fz, hh, _⟩ := r.blk b k p hb hp
    exact (Array.getElem?_eq_some_iff.1 hh).1
  refine ⟨by simp [r.len], by have := r.base; simp; omega, fun w2 hB => r.glob w2 ((Below.of_alloc r.base _).trans hB), ?_, ?_⟩
  · intro b kb p hb hp
    rcases getB_append_cases hb with ⟨hb1, hb2⟩ | ⟨rfl, rfl⟩
    · have hp := hold b p hb1 hp
      obtain ⟨arr, fz, hh, h1, h2, h3⟩ := r.blk b kb p hb2 hp
      refine ⟨arr, fz, ?_, fun i v hv => ?_, h2, h3⟩
      · rw [Below.heap_alloc _ _ _ (Array.getElem?_eq_some_iff.1 hh).1]; exact hh
      · obtain ⟨u, hu, hr⟩ := h1 i v hv; exact ⟨u, hu, hr.pre hpre⟩
    · have := hnew p hp
      subst this
      refine ⟨us.toArray, (0, 0), heap_alloc_new _ _, fun i v hv => ?_, by simp, fun _ => ⟨r.base, fun i _ => by simp, ⟨k, hk, by simp [hl.length]⟩, fun _ => rfl⟩⟩
      obtain ⟨u, hu, hr⟩ := hl.get i v hv
      exact ⟨u, by simpa using hu, hr.pre hpre⟩
  · intro b b' kb kb' p p' hb hb' hp hp' hro hro' he
    rcases getB_append_cases hb with ⟨hb1, hb2⟩ | ⟨rfl, rfl⟩ <;> rcases getB_append_cases hb' with ⟨hb1', hb2'⟩ | ⟨rfl, rfl⟩
    · exact r.inj b b' kb kb' p p' hb2 hb2' (hold b p hb1 hp) (hold b' p' hb1' hp') hro hro' he
    · have := hlt b kb p hb2 (hold b p hb1 hp)
      rw [hnew p' hp'] at he; simp at he; omega
    · have := hlt b' kb' p' hb2' (hold b' p' hb1' hp')
      rw [hnew p hp] at he; simp at he; omega
    · rfl

theorem Rel.drew (r : Rel P B0 ι h w) : Rel P B0 ι h w.drew := ⟨r.len, r.base, fun w2 hB => r.glob w2 (((Below.refl B0 w).drew).trans hB), r.blk, r.inj⟩

/-- Stores in a row. -/
theorem run_storeCells_row (g o : Nat) (ty : TypeId) (fz : Nat × Nat) : ∀ (vs : List Value) (i : Nat) (w : World) (arr : Array Value), w.heap[g]? = some (.cells arr ty fz) → o + i + vs.length ≤ arr.size →
    (∀ j, j < arr.size → ¬ (fz.1 ≤ j ∧ j < fz.2)) → (∀ v ∈ vs, v.oneCell' = true) →
    ∃ (w' : World) (arr' : Array Value), (storeCells ⟨g, o, none⟩ vs i).run P w = .ok () w' ∧ w'.heap[g]? = some (.cells arr' ty fz) ∧ arr'.size = arr.size ∧
      (∀ j, j < o + i ∨ o + i + vs.length ≤ j → arr'[j]? = arr[j]?) ∧ (∀ j v, vs[j]? = some v → arr'[o + i + j]? = some v) ∧
      (∀ k, k ≠ g → w'.heap[k]? = w.heap[k]?) ∧ w'.heap.size = w.heap.size ∧ w'.os = w.os ∧ w'.tape = w.tape ∧ w'.output = w.output := by
  intro vs
  induction vs with
  | nil => intro i w arr hg _ _ _; exact ⟨w, arr, rfl, hg, rfl, fun _ _ => rfl, fun j v hv => by simp at hv, fun _ _ => rfl, rfl, rfl, rfl, rfl⟩
  | cons v vs ih =>
    intro i w arr hg hl hf h1
    simp only [List.length_cons] at hl
    have hlt : o + i < arr.size := by omega
    have hc : w.cell? ⟨g, o + i, none⟩ = some arr[o + i] := by rw [World.cell?, hg]; simp [hlt]
    have hfr : w.frozen? ⟨g, o + i, none⟩ = false := by
      rw [World.frozen?, hg]
      have := hf (o + i) hlt
      simp only []
      rw [Bool.and_eq_false_iff]
      by_cases h : fz.1 ≤ o + i
      · right; simpa using fun hh => this ⟨h, hh⟩
      · left; simpa using h
    have hst : (store (⟨g, o + i, none⟩ : Addr) v).run P w = .ok () (w.setCell ⟨g, o + i, none⟩ v) := by
      rw [run_store P w _ v .plain (h1 v (by simp)), hc]; simp [hfr]
    have hg1 : (w.setCell ⟨g, o + i, none⟩ v).heap[g]? = some (.cells (arr.setIfInBounds (o + i) v) ty fz) := by
      simp [World.setCell, Array.getElem?_modify, hg]
    obtain ⟨w', arr', hr, hg', hsz, hout, hin, hoth, hws, ho, ht, hp⟩ := ih (i + 1) (w.setCell ⟨g, o + i, none⟩ v) (arr.setIfInBounds (o + i) v) hg1 (by simp; omega) (by simpa using hf) (fun x hx => h1 x (by simp [hx]))
    refine ⟨w', arr', ?_, hg', by simpa using hsz, fun j hj => ?_, fun j x hx => ?_, fun k hk => ?_, by simpa using hws, ho, ht, hp⟩
    · simp only [storeCells, addr_add, Sem.run_bind, hst, Result.andThen_ok]
      exact hr
    · simp only [List.length_cons] at hj
      rw [hout j (by omega)]
      rw [Array.getElem?_setIfInBounds, if_neg (by omega)]
    · cases j with
      | zero =>
        simp at hx; subst hx
        rw [hout (o + i + 0) (by omega)]
        simp [hlt]
      | succ j =>
        have := hin j x (by simpa using hx)
        rw [← this]; congr 1; omega
    · rw [hoth k hk, Below.heap_setCell _ _ _ _ hk]

theorem writeB_inv {h h' : Heap} {b off : Nat} {cs : List Value} (hw : writeB h b off cs = some h') :
    ∃ k, getB h b = some k ∧ k.ro = false ∧ off + cs.length ≤ k.cells.length ∧ h' = h.set b (some { k with cells := putCells k.cells off cs }) := by
  unfold writeB at hw
  cases hk : getB h b with
  | none => simp [hk] at hw
  | some k =>
    simp only [hk] at hw
    split at hw
    · rename_i hc
      simp at hc
      exact ⟨k, rfl, hc.1, hc.2, by simpa using hw.symm⟩
    · simp at hw

theorem putCells_length {l cs : List Value} {off : Nat} (h : off + cs.length ≤ l.length) : (putCells l off cs).length = l.length := by
  simp [putCells]; omega
theorem putCells_in {l cs : List Value} {off : Nat} (h : off + cs.length ≤ l.length) {i : Nat} (h0 : off ≤ i) (h1 : i < off + cs.length) : (putCells l off cs)[i]? = cs[i - off]? := by
  unfold putCells
  rw [List.append_assoc, List.getElem?_append_right (by simp; omega), List.getElem?_append_left (by simp; omega)]
  congr 1; simp; omega
theorem putCells_out {l cs : List Value} {off : Nat} (h : off + cs.length ≤ l.length) {i : Nat} (hi : i < off ∨ off + cs.length ≤ i) : (putCells l off cs)[i]? = l[i]? := by
  unfold putCells
  rcases hi with hi | hi
  · rw [List.append_assoc, List.getElem?_append_left (by simp; omega), List.getElem?_take, if_pos hi]
  · rw [List.getElem?_append_right (by simp; omega), List.getElem?_drop]
    congr 1; simp; omega

theorem L2.one {l m : List Value} (hl : L2 (FR ι) l m) : ∀ v ∈ m, v.oneCell' = true := by
  induction hl with
  | nil => simp
  | cons hr _ ih => intro v hv; exact (List.mem_cons.1 hv).elim (fun e => e ▸ hr.flat.2.2) (ih v)

/-- A write into a block of one's own. -/
theorem Rel.write (r : Rel P B0 ι h w) {b off : Nat} {cs us : List Value} {h' : Heap} {p : Place} (hw : writeB h b off cs = some h') (hp : ι[b]? = some p) (hl : L2 (FR ι) cs us) :
    ∃ w', (storeCells ⟨p.blk, p.base + off, none⟩ us 0).run P w = .ok () w' ∧ Rel P B0 ι h' w' ∧ Below B0 w w' := by
  obtain ⟨k, hk, hro, hle, rfl⟩ := writeB_inv hw
  obtain ⟨arr, fz, hh, hcell, _, hown⟩ := r.blk b k p hk hp
  obtain ⟨hB, hfz, ⟨tk', htk, hsz⟩, hex⟩ := hown hro
  obtain ⟨w', arr', hr, hg', hsz', hout, hin, hoth, hws, ho, ht, hpp⟩ := run_storeCells_row (P := P) p.blk (p.base + off) k.ty fz us 0 w arr hh (by rw [← hl.length]; omega) hfz (L2.one hl)
  have hbl := getB_lt hk
  have hBel : Below B0 w w' := ⟨ho, ht, hpp, by omega, fun i hi => hoth i (by omega)⟩
  refine ⟨w', hr, ⟨by simpa using r.len, by rw [hws]; exact r.base, fun w2 hB => r.glob w2 (hBel.trans hB), fun c kc pc hc hpc => ?_, ?_⟩, hBel⟩
  · rw [getB_set hbl] at hc
    by_cases hcb : c = b
    · subst hcb
      rw [if_pos rfl] at hc
      simp only [Option.some.injEq] at hc; subst hc
      rw [hp] at hpc; simp only [Option.some.injEq] at hpc; subst hpc
      refine ⟨arr', fz, hg', fun i v hv => ?_, fun h => by simp [hro] at h, fun _ => ⟨hB, by rw [hsz']; exact hfz, ⟨tk', htk, by rw [hsz', hsz]; simp only []; rw [putCells_length hle]⟩, hex⟩⟩
      simp only [] at hv
      by_cases hi : off ≤ i ∧ i < off + cs.length
      · rw [putCells_in hle hi.1 hi.2] at hv
        obtain ⟨u, hu, hru⟩ := hl.get _ _ hv
        refine ⟨u, ?_, hru⟩
        have := hin _ _ hu
        rw [← this]; congr 1; omega
      · rw [putCells_out hle (by omega)] at hv
        obtain ⟨u, hu, hru⟩ := hcell i v hv
        refine ⟨u, ?_, hru⟩
        rw [hout _ (by rw [← hl.length]; omega)]; exact hu
    · rw [if_neg hcb] at hc
      obtain ⟨arr1, fz1, hh1, h1, h2, h3⟩ := r.blk c kc pc hc hpc
      refine ⟨arr1, fz1, ?_, h1, h2, h3⟩
      rw [hoth _ ?_]; exact hh1
      intro he
      cases hcr : kc.ro with
      | true => have := h2 hcr; omega
      | false => exact hcb (r.inj c b kc k pc p hc hk hpc hp hcr hro he)
  · intro c c' kc kc' pc pc' hc hc' hpc hpc' hro1 hro2 he
    have key : ∀ d kd, getB (h.set b (some { k with cells := putCells k.cells off cs })) d = some kd → ∃ kd', getB h d = some kd' ∧ kd'.ro = kd.ro := by
      intro d kd hd
      rw [getB_set hbl] at hd
      by_cases hdb : d = b
      · rw [if_pos hdb] at hd; simp only [Option.some.injEq] at hd; subst hd; exact ⟨k, hdb ▸ hk, rfl⟩
      · rw [if_neg hdb] at hd; exact ⟨kd, hd, rfl⟩
    obtain ⟨k1, hk1, e1⟩ := key c kc hc
    obtain ⟨k2, hk2, e2⟩ := key c' kc' hc'
    exact r.inj c c' k1 k2 pc pc' hk1 hk2 hpc hpc' (e1.trans hro1) (e2.trans hro2) he


/-! ### append -/
theorem kind_not_int {t : TypeId} {n : Nat} (hk : (tk P t).map (·.kind) = some n) (hn : n ≠ 2) : ∃ d, P.underlying t = some d ∧ ∀ k, d ≠ .int k := by
  unfold tk at hk
  split at hk
  · rename_i i d hi hd
    refine ⟨d, hd, fun k hkk => ?_⟩
    subst hkk
    split at hk
    · split at hk
      · simp [kindOf] at hk; exact hn hk.symm
      · simp at hk
    · simp at hk
  · simp at hk

theorem tk_info {t : TypeId} {k : TK} (hk : tk P t = some k) : ∃ i z d, P.info? t = some i ∧ P.underlying t = some d ∧ i.zero = some z ∧ z.cells.toList = k.zero ∧ i.size = k.size ∧ i.bytes = k.bytes ∧
    k.zero.all closed1 = true ∧ k.zero.length = k.size ∧ 0 < k.size ∧ 0 < k.bytes ∧ k.kind = kindOf d ∧ k.agg = (kindOf d == 6 || kindOf d == 9) ∧ (k.fok = true → ∀ fs, d = .struct fs → ∀ f ∈ fs.toList, (P.info? f.type).isSome = true) := by
  unfold tk at hk
  split at hk
  · rename_i i d hi hd
    split at hk
    · rename_i z hz
      split at hk
      · rename_i hc
        simp only [Option.some.injEq] at hk
        subst hk
        simp at hc
        obtain ⟨⟨⟨h1, h2⟩, h3⟩, h4⟩ := hc
        refine ⟨i, z, d, hi, hd, hz, rfl, rfl, rfl, by simpa using h1, by simpa using h2, h3, h4, rfl, rfl, fun hf fs hfs f hm => ?_⟩
        subst hfs
        simp only [List.all_eq_true] at hf
        exact hf f hm
      · simp at hk
    · simp at hk
  · simp at hk

theorem tElem_some {t el : TypeId} (h : tElem P t = some el) : P.underlying t = some (.slice el) := by
  unfold tElem at h
  split at h
  · rename_i e he; simp at h; subst h; exact he
  · simp at h

theorem rep_length {α : Type} (n : Nat) (l : List α) : (rep n l).length = n * l.length := by
  induction n with
  | zero => simp [rep]
  | succ n ih => simp [rep, ih, Nat.add_mul, Nat.add_comm]
theorem rep_get {α : Type} [Inhabited α] (l : List α) : ∀ (n i : Nat), i < n * l.length → (rep n l)[i]? = some (l[i % l.length]!) := by
  intro n
  induction n with
  | zero => intro i hi; simp at hi
  | succ n ih =>
    intro i hi
    have hl : 0 < l.length := by
      rcases Nat.eq_zero_or_pos l.length with h0 | h0
      · rw [h0] at hi; simp at hi
      · exact h0
    simp only [rep]
    rcases Nat.lt_or_ge i l.length with hlt | hge
    · rw [List.getElem?_append_left hlt, Nat.mod_eq_of_lt hlt]
      simp [hlt]
    · rw [List.getElem?_append_right hge, ih (i - l.length) (by rw [Nat.add_mul] at hi; omega)]
      rw [Nat.mod_eq_sub_mod hge]

theorem closed_rep {n : Nat} {l : List Value} (h : l.all closed1 = true) : (rep n l).all closed1 = true := by
  induction n with
  | zero => rfl
  | succ n ih => simp only [rep, List.all_append, h, ih, Bool.and_self]

theorem zeroCells_rep (z : Array Value) (n : Nat) : (Builtin.zeroCells z n).toList = rep n z.toList := by
  apply List.ext_getElem?
  intro i
  unfold Builtin.zeroCells
  rcases Nat.lt_or_ge i (n * z.size) with hlt | hge
  · rw [rep_get _ _ _ (by simpa using hlt)]
    simp [hlt]
    rw [getElem!_def]
    cases z[i % z.size]? <;> rfl
  · rw [List.getElem?_eq_none (by simpa using hge), List.getElem?_eq_none (by rw [rep_length]; simpa using hge)]

theorem run_append_in (w : World) {t t2 ty el : TypeId} {i : TypeInfo} {d2 : TypeDesc} (ht : P.underlying t = some (.slice el)) (h2 : P.underlying t2 = some d2) (hd2 : ∀ k, d2 ≠ .int k)
    (hi : P.info? el = some i) (A : Option Addr) (len cap n : Nat) (x : Value) (news : List Value) (hx : ∀ w, (Builtin.lenOf x).run P w = .ok n w)
    (hn : (Builtin.firstCells i.size n x).run P w = .ok news.toArray w) (hle : len + n ≤ cap) :
    (Builtin.append_ #[t, t2] ty #[.slice A len cap, x]).run P w =
      (match A with | some a => (storeCells (a.add (len * i.size)) news 0).run P w | none => .ok () w).andThen fun _ w' => .ok (.slice A (len + n) cap) w' := by
  have hz : (match d2 with | .int _ => true | _ => false) = false := by
    cases d2 with
    | int k => exact absurd rfl (hd2 k)
    | _ => rfl
  cases A <;> simp [Builtin.append_, run_underlying ht, run_underlying h2, sizeOf, typeInfo, hi, hz, hx, hn, hle]

theorem run_append_new (w : World) {t t2 ty el : TypeId} {i : TypeInfo} {z : Value} {d2 : TypeDesc} (ht : P.underlying t = some (.slice el)) (h2 : P.underlying t2 = some d2) (hd2 : ∀ k, d2 ≠ .int k)
    (hi : P.info? el = some i) (hz : i.zero = some z) (A : Option Addr) (len cap n : Nat) (x : Value) (olds news : List Value) (hx : ∀ w, (Builtin.lenOf x).run P w = .ok n w)
    (hn : (Builtin.firstCells i.size n x).run P w.drew = .ok news.toArray w.drew) (ho : (Builtin.firstCells i.size len (.slice A len cap)).run P w.drew = .ok olds.toArray w.drew)
    (hle : cap < len + n) (hb : (len + n) * i.bytes ≤ 140737488355328) (hb0 : 0 < i.bytes) :
    (Builtin.append_ #[t, t2] ty #[.slice A len cap, x]).run P w =
      .ok (.slice (some ⟨w.heap.size, 0, none⟩) (len + n) (grownCap w (len + n) cap el))
        (w.drew.alloc (.cells ((olds ++ news) ++ rep (grownCap w (len + n) cap el - (len + n)) z.cells.toList).toArray el)) := by
  have hz2 : (match d2 with | .int _ => true | _ => false) = false := by
    cases d2 with
    | int k => exact absurd rfl (hd2 k)
    | _ => rfl
  have hle' : ¬ (len + n ≤ cap) := by omega
  have hnn : len + n ≤ (len + n) * i.bytes := Nat.le_mul_of_pos_right _ hb0
  have h63' : ¬ (9223372036854775807 < ((len : Int) + (n : Int))) := by omega
  have h48' : ¬ (281474976710656 < Builtin.nextslicecap (len + n) cap * i.bytes) := by have := growslice_fits (old := cap) hle hb; omega
  have hb00 : i.bytes ≠ 0 := by omega
  simp [Builtin.append_, run_underlying ht, run_underlying h2, sizeOf, typeInfo, zeroValue, hi, hz, hz2, hx, hle', h63', h48', Question.forced, hn, ho, newRow, grownCap, hb00]
  congr 2
  apply Array.ext'
  simp [List.append_assoc, zeroCells_rep]

end Go.V

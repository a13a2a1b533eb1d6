/- The layer V, part 31: a library's function that writes one row in place (contracts that speak of worlds). -/
import Derived.Test.YtkapgaajomaheaaGreatDoorVB
import Derived.Sort.EncStr
set_option linter.all false
namespace Go.V
open Go Go.RowKit
open Go.Sort (mapBlock onCells putRow Holds grow)
open Go.Proofs (encStr)

section
variable {P : Program} [Laid P] {B0 : Nat} {ι : List Place} {h : Heap} {w : World}
/-- A write into a block of one's own, however it was done. -/
theorem Rel.put (r : Rel P B0 ι h w) {b off : Nat} {cs us : List Value} {h' : Heap} {p : Place} (hw : writeB h b off cs = some h') (hp : ι[b]? = some p) (hl : L2 (FR ι) cs us) {w' : World}
    (ho : w'.os = w.os) (ht : w'.tape = w.tape) (hpp : w'.output = w.output) (hws : w.heap.size ≤ w'.heap.size) (hoth : ∀ j, j < w.heap.size → j ≠ p.blk → w'.heap[j]? = w.heap[j]?)
    (hblk : ∀ arr ty fz, w.heap[p.blk]? = some (.cells arr ty fz) → ∃ arr', w'.heap[p.blk]? = some (.cells arr' ty fz) ∧ arr'.size = arr.size ∧ (∀ i, ¬ (p.base + off ≤ i ∧ i < p.base + off + us.length) → arr'[i]? = arr[i]?) ∧ ∀ i u, us[i]? = some u → arr'[p.base + off + i]? = some u) :
    Rel P B0 ι h' w' ∧ Below B0 w w' := by
  obtain ⟨k, hk, hro, hle, rfl⟩ := writeB_inv hw
  obtain ⟨arr, fz, hh, hcell, _, hown⟩ := r.blk b k p hk hp
  obtain ⟨hB, hfz, ⟨tk', htk, hsz⟩, hex⟩ := hown hro
  obtain ⟨arr', hg', hsz', hout, hin⟩ := hblk _ _ _ hh
  have hbl := getB_lt hk
  have hBs : B0 ≤ w.heap.size := r.base
  have hBel : Below B0 w w' := ⟨ho, ht, hpp, hws, fun i hi => hoth i (by omega) (by omega)⟩
  refine ⟨⟨by simpa using r.len, by have := r.base; omega, fun w2 hB => r.glob w2 (hBel.trans hB), fun c kc pc hc hpc => ?_, ?_⟩, hBel⟩
  · rw [getB_set hbl] at hc
    by_cases hcb : c = b
    · subst hcb
      rw [if_pos rfl] at hc
      simp only [Option.some.injEq] at hc; subst hc
      rw [hp] at hpc; simp only [Option.some.injEq] at hpc; subst hpc
      refine ⟨arr', fz, hg', fun i v hv => ?_, fun h => by simp [hro] at h, fun _ => ⟨hB, by rw [hsz']; exact hfz, ⟨tk', htk, by rw [hsz', hsz]; simp only []; rw [putCells_length hle]⟩, hex⟩⟩
      simp only [] at hv
      by_cases hi : off ≤ i ∧ i < off + cs.length
      · rw [putCells_in hle hi.1 hi.2] at hv
        obtain ⟨u, hu, hru⟩ := hl.get _ _ hv
        refine ⟨u, ?_, hru⟩
        have := hin _ _ hu
        rw [← this]; congr 1; omega
      · rw [putCells_out hle (by omega)] at hv
        obtain ⟨u, hu, hru⟩ := hcell i v hv
        refine ⟨u, ?_, hru⟩
        rw [hout _ (by rw [← hl.length]; omega)]; exact hu
    · rw [if_neg hcb] at hc
      obtain ⟨arr1, fz1, hh1, h1, h2, h3⟩ := r.blk c kc pc hc hpc
      refine ⟨arr1, fz1, ?_, h1, h2, h3⟩
      rw [hoth _ (Array.getElem?_eq_some_iff.1 hh1).1 ?_]; exact hh1
      intro he
      cases hcr : kc.ro with
      | true => have := h2 hcr; omega
      | false => exact hcb (r.inj c b kc k pc p hc hk hpc hp hcr hro he)
  · intro c c' kc kc' pc pc' hc hc' hpc hpc' hro1 hro2 he
    have key : ∀ d kd, getB (h.set b (some { k with cells := putCells k.cells off cs })) d = some kd → ∃ kd', getB h d = some kd' ∧ kd'.ro = kd.ro := by
      intro d kd hd
      rw [getB_set hbl] at hd
      by_cases hdb : d = b
      · rw [if_pos hdb] at hd; simp only [Option.some.injEq] at hd; subst hd; exact ⟨k, hdb ▸ hk, rfl⟩
      · rw [if_neg hdb] at hd; exact ⟨kd, hd, rfl⟩
    obtain ⟨k1, hk1, e1⟩ := key c kc hc
    obtain ⟨k2, hk2, e2⟩ := key c' kc' hc'
    exact r.inj c c' k1 k2 pc pc' hk1 hk2 hpc hpc' (e1.trans hro1) (e2.trans hro2) he
end

theorem l2_str {ι : List Place} (ss : List (List UInt8)) : L2 (FR ι) (ss.map encStr) (ss.map encStr) := by
  induction ss with
  | nil => exact .nil
  | cons s ss ih => exact .cons (.base (.string _)) ih
/-- A library's function on a row of texts, which it writes anew. -/
theorem CallsV.strRow {P : Program} [Laid P] {f : FuncId} {b off n cap : Nat} {ss ss' : List (List UInt8)} {h h' : Heap} {Q : Value → Heap → Prop} {rv : Option Addr → Nat → Value} (hn : ss.length = n) (hn' : ss'.length = n) (h0 : 0 < n) (hcap : n ≤ cap)
    (hcells : cellsAt h b off n = some (ss.map encStr)) (hw : writeB h b off (ss'.map encStr) = some h')
    (hc : ∀ (w : World) (blk o c : Nat), Laid.G P w → blk < w.heap.size → n ≤ c → Holds encStr w blk o ss.toArray → Calls P f #[.slice (some ⟨blk, o, none⟩) n c] w fun e w' => e = .returned (rv (some ⟨blk, o, none⟩) c) ∧ ∃ q os, w' = grow (putRow encStr (Sort.ahead w q) blk o ss'.toArray) os)
    (hrv : ∀ ι p, ι[b]? = some p → VR ι (rv (some ⟨b, off, none⟩) cap) (rv (some ⟨p.blk, p.base + off, none⟩) (cap + p.slack)))
    (hQ : Q (rv (some ⟨b, off, none⟩) cap) h') : CallsV P f [.slice (some ⟨b, off, none⟩) n cap] h Q := by
  intro B0 ι w us r hu
  obtain ⟨p, hp⟩ := r.place (b := b) (by obtain ⟨k, hk, _⟩ := cellsAt_getB hcells; exact getB_lt hk)
  -- what the argument is in the machine
  obtain rfl : us = [.slice (some ⟨p.blk, p.base + off, none⟩) n (cap + p.slack)] := by
    cases hu with
    | cons h1 h2 =>
      cases h2
      have hf := h1.flat_inv trivial
      cases hf with
      | base hb =>
        generalize hv : Value.slice (some ⟨b, off, none⟩) n cap = v at hb
        cases hb <;> first | (cases hv; done) | skip
        · rename_i hp' hc'
          simp only [Value.slice.injEq, Option.some.injEq, Addr.mk.injEq] at hv
          obtain ⟨⟨rfl, rfl, _⟩, rfl, rfl⟩ := hv
          rw [hp] at hp'
          simp only [Option.some.injEq] at hp'; subst hp'
          rfl
        · simp only [Value.slice.injEq] at hv
          omega
  obtain ⟨k, hk, hro, hle, hh'⟩ := writeB_inv hw
  obtain ⟨arr, fz, hh, hcell, _, hown⟩ := r.blk b k p hk hp
  obtain ⟨hB, hfz, ⟨tk', htk, hsz⟩, hex⟩ := hown hro
  obtain ⟨k', hk', hle', hcs⟩ := cellsAt_getB hcells
  obtain rfl : k = k' := by rw [hk] at hk'; simpa using hk'
  have hlt := (Array.getElem?_eq_some_iff.1 hh).1
  have hcl : ∀ j, j < n → arr[p.base + off + j]? = some (encStr ss.toArray[j]!) := by
    intro j hj
    have hkj : k.cells[off + j]? = some (encStr ss.toArray[j]!) := by
      have h1 : (ss.map encStr)[j]? = some (encStr ss.toArray[j]!) := by
        rw [List.getElem?_map, List.getElem?_eq_getElem (by omega)]
        simp [getElem!_pos, hj, hn]
      rw [hcs, List.getElem?_take, if_pos (by omega), List.getElem?_drop] at h1
      exact h1
    obtain ⟨u, hu, hr⟩ := hcell _ _ hkj
    rw [show p.base + off + j = p.base + (off + j) by omega, hu]
    generalize hv : encStr ss.toArray[j]! = v at hr
    cases hr with
    | base hb =>
      cases hb <;> first | (cases hv; done) | rfl
    | func => cases hv
  have hholds : Holds encStr w p.blk (p.base + off) ss.toArray := by
    intro j hj
    have hj' : j < n := by simpa [hn] using hj
    constructor
    · unfold World.cell?
      simp only [hh]
      exact hcl j hj'
    · unfold World.frozen?
      simp only [hh]
      have := hfz (p.base + off + j) (Array.getElem?_eq_some_iff.1 (hcl j hj')).1
      cases h1 : (decide (fz.1 ≤ p.base + off + j) && decide (p.base + off + j < fz.2)) with
      | false => rfl
      | true =>
        rw [Bool.and_eq_true] at h1
        exact absurd ⟨of_decide_eq_true h1.1, of_decide_eq_true h1.2⟩ this
  have hg := r.glob w (Below.refl B0 w)
  refine (hc w p.blk (p.base + off) (cap + p.slack) hg hlt (by omega) hholds).mono ?_
  rintro e w' ⟨rfl, q, os, rfl⟩
  have hput := r.put (w' := grow (putRow encStr (Sort.ahead w q) p.blk (p.base + off) ss'.toArray) os) hw hp (l2_str ss') rfl rfl rfl (by simp [grow, putRow, mapBlock, Sort.ahead]) (by
      intro j hj hne
      simp only [grow, putRow, mapBlock, Sort.ahead, Array.getElem?_append, Array.size_modify, hj, if_true, Array.getElem?_modify]
      rw [if_neg (fun e => hne e.symm)]) (by
      intro arr1 ty1 fz1 hh1
      refine ⟨Sort.putCells encStr (p.base + off) ss'.toArray arr1, ?_, by simp [Sort.putCells], ?_, ?_⟩
      · have hlt1 := (Array.getElem?_eq_some_iff.1 hh1).1
        simp only [grow, putRow, mapBlock, Sort.ahead, Array.getElem?_append, Array.size_modify, hlt1, if_true, Array.getElem?_modify, hh1, Option.map_some, onCells]
      · intro i hi
        simp only [Sort.putCells, Array.getElem?_mapIdx, List.size_toArray]
        rw [List.length_map] at hi
        cases arr1[i]? with
        | none => rfl
        | some x => simp only [Option.map_some, if_neg hi]
      · intro i u hu
        rw [List.getElem?_map] at hu
        obtain ⟨x, hx, rfl⟩ := Option.map_eq_some_iff.1 hu
        have hi := (List.getElem?_eq_some_iff.1 hx).1
        obtain rfl : arr = arr1 := by rw [hh] at hh1; simpa using (by cases hh1; rfl : arr = arr1)
        have hin : p.base + off + i < arr.size := by
          have := (Array.getElem?_eq_some_iff.1 (hcl i (by omega))).1
          exact this
        simp only [Sort.putCells, Array.getElem?_mapIdx, List.size_toArray]
        rw [Array.getElem?_eq_getElem hin]
        simp only [Option.map_some]
        rw [if_pos ⟨by omega, by omega⟩, show p.base + off + i - (p.base + off) = i by omega]
        have : ss'.toArray[i]! = x := by
          rw [getElem!_pos _ _ (by simpa using hi)]
          obtain ⟨_, hx'⟩ := List.getElem?_eq_some_iff.1 hx
          simpa using hx'
        rw [this])
  exact ⟨_, _, h', ι, rfl, hQ, hrv ι p hp, hput.1, List.prefix_rfl, hput.2⟩

section
variable {a h : Heap} {L : List Asr} {el : TypeId} {l l' : List ByteArray} {v : Value}
theorem cells_strs {h : Heap} {l : List ByteArray} (hz : ∀ x ∈ l, x.size ≤ 9223372036854775807) : Cells h l (l.map fun x => .string x) (List.replicate l.length []) := by
  induction l with
  | nil => exact ⟨rfl, rfl⟩
  | cons x l ih => exact ⟨[.string x], [], _, _, rfl, rfl, ⟨rfl, rfl, hz x (by simp)⟩, ih fun y hy => hz y (by simp [hy])⟩
theorem cells_strs_inv {h : Heap} {l : List ByteArray} {cs : List Value} {fps : List (List Nat)} (hc : Cells h l cs fps) : cs = l.map (fun x => .string x) ∧ fps.flatten = [] ∧ ∀ x ∈ l, x.size ≤ 9223372036854775807 := by
  induction l generalizing cs fps with
  | nil => obtain ⟨rfl, rfl⟩ := hc; simp
  | cons x l ih =>
    obtain ⟨c, f, cs', fps', rfl, rfl, hr, hc⟩ := hc
    obtain ⟨rfl, rfl, hz⟩ := hr
    obtain ⟨h1, h2, h3⟩ := ih hc
    refine ⟨by rw [h1]; rfl, by simp [h2], fun y hy => ?_⟩
    rcases List.mem_cons.1 hy with rfl | hy
    · exact hz
    · exact h3 y hy
/-- A row of texts, written anew. -/
theorem Sep.putStrs (s : Sep a h (ownA el l v :: L)) (hne : 0 < l.length) (hl : l'.length = l.length) (hz : ∀ x ∈ l', x.size ≤ 9223372036854775807) :
    ∃ b off cap h', v = .slice (some ⟨b, off, none⟩) l.length cap ∧ l.length ≤ cap ∧ cellsAt h b off l.length = some (l.map fun x => .string x) ∧ writeB h b off (l'.map fun x => .string x) = some h' ∧ Sep a h' (ownA el l' v :: L) := by
  have shape : ∀ fp, Own el h l v fp → ∃ (b off cap : Nat) (k : Blk), v = .slice (some ⟨b, off, none⟩) l.length cap ∧ l.length ≤ cap ∧ getB h b = some k ∧ k.ro = false ∧ k.ty = el ∧ off + cap = k.cells.length ∧ fp = [b] ∧ (k.cells.drop off).take l.length = l.map (fun x => .string x) := by
    intro fp o
    rcases o.cases with ⟨_, h1, _⟩ | ⟨b, off, cap, k, fps, h1, h2, h3, h4, h5, h6, h7, h8⟩
    · rw [h1] at hne; simp at hne
    · obtain ⟨e1, e2, _⟩ := cells_strs_inv h8
      have sz : Rep.sz ByteArray = 1 := rfl
      rw [sz, Nat.mul_one] at h6 e1
      exact ⟨b, off, cap, k, h1, h2, h3, h4, h5, h6, by rw [h7, e2], e1⟩
  obtain ⟨fp0, o0, _⟩ := s.get
  obtain ⟨b, off, cap, k, e1, e2, e3, e4, e5, e6, e7, e8⟩ := shape fp0 o0
  have hwl : off + (l'.map (fun x => (Value.string x))).length ≤ k.cells.length := by rw [List.length_map]; omega
  have hwr : writeB h b off (l'.map fun x => .string x) = some (h.set b (some { k with cells := putCells k.cells off (l'.map fun x => .string x) })) := by
    obtain ⟨kc, kt, kr, kx⟩ := k
    simp only at e4 hwl
    subst e4
    simp only [writeB, e3, Bool.not_false, Bool.true_and, decide_eq_true hwl, if_true]
  refine ⟨b, off, cap, _, e1, e2, by rw [cellsAt_of e3 (by omega), e8], hwr, ?_⟩
  refine s.put ?_
  intro fp o hd hrw
  obtain ⟨b1, off1, cap1, k1, f1, f2, f3, f4, f5, f6, f7, f8⟩ := shape fp o
  rw [e1] at f1
  simp only [Value.slice.injEq, Option.some.injEq, Addr.mk.injEq] at f1
  obtain ⟨⟨rfl, rfl, _⟩, _, rfl⟩ := f1
  obtain rfl : k = k1 := by rw [e3] at f3; simpa using f3
  have hbl := getB_lt e3
  have hg : getB (h.set b (some { k with cells := putCells k.cells off (l'.map fun x => .string x) })) b = some { k with cells := putCells k.cells off (l'.map fun x => .string x) } := by rw [getB_set hbl, if_pos rfl]
  have hcs : ((putCells k.cells off (l'.map fun x => (Value.string x))).drop off).take l'.length = l'.map fun x => .string x := by
    unfold putCells
    rw [List.append_assoc, List.drop_append_of_le_length (by rw [List.length_take]; omega), List.drop_eq_nil_of_le (by rw [List.length_take]; omega), List.nil_append, List.take_append_of_le_length (by simp), List.take_of_length_le (by simp)]
  have on := Own.mk' (α := ByteArray) (el := el) (l := l') (b := b) (off := off) (cap := cap) (h := h.set b (some { k with cells := putCells k.cells off (l'.map fun x => .string x) })) (k := { k with cells := putCells k.cells off (l'.map fun x => .string x) }) (fps := List.replicate l'.length []) (by omega) (by have := o.row.2.1; omega) hg e4 e5
    (by show off + cap * 1 = _; simp only []; rw [putCells_length hwl]; omega) (by show Cells _ l' ((List.drop off _).take (l'.length * 1)) _; rw [Nat.mul_one]; simp only []; rw [hcs]; exact cells_strs hz) (by rw [flat_nils]; simp)
  rw [flat_nils] at on
  have on : Own el (h.set b (some { k with cells := putCells k.cells off (l'.map fun x => .string x) })) l' v [b] := by rw [e1, ← hl]; exact on
  refine ⟨[b], on, by simp, ⟨by simp, fun c hc hn => ?_⟩, fun c hc => ?_⟩
  · rw [getB_set hbl, if_neg (fun e => hn (by rw [f7]; simp [e]))]
  · simp only [List.mem_singleton] at hc; subst hc
    exact ⟨.inl (by rw [f7]; simp), _, hg, e4⟩
end
end Go.V

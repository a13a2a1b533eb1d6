/- The layer V, part 19: rules for rows: append, cut, make, write. -/
import Derived.Test.YtheliocfcjkbhaaDoorV18
set_option linter.all false
namespace Go.V
open Go Go.RowKit

/-! ### cutting -/
def cutV (v : Value) (sz lo m : Nat) : Value := match v with
  | .slice A _ cap => .slice (A.map fun a => ⟨a.block, a.off + lo * sz, none⟩) (m - lo) (cap - lo)
  | v => v
theorem IsRow.cap {v : Value} {n : Nat} (hr : IsRow v n) : n ≤ rowC v := by
  rcases hr with ⟨rfl, rfl⟩ | ⟨b, off, cap, rfl, h⟩
  · exact Nat.zero_le _
  · exact h
theorem IsRow.sl {v : Value} {n : Nat} (hr : IsRow v n) (P : Program) (t : TypeId) (e : Env) (lo hi : Option Operand) :
    sliceV P t e v lo hi = (tElem P t).bind fun el => (tk P el).bind fun k => (hiV e hi (rowC v) n).bind fun m => (loV e lo m).bind fun l => if m ≤ rowC v then some (cutV v k.size l m) else none := by
  rcases hr with ⟨rfl, rfl⟩ | ⟨b, off, cap, rfl, h⟩ <;> rfl
theorem hi_none (e : Env) (c n : Nat) : hiV e none c n = some n := rfl
theorem hi_some (e : Env) (x : Operand) (c n : Nat) : hiV e (some x) c n = boundV (evO e x) c := rfl
theorem lo_none (e : Env) (n : Nat) : loV e none n = some 0 := rfl
theorem lo_some (e : Env) (x : Operand) (n : Nat) : loV e (some x) n = boundV (evO e x) n := rfl
theorem bound_in (k : IntKind) (i : Int) (n : Nat) (h : 0 ≤ i ∧ i ≤ n) : boundV (.int k i) n = some i.toNat := if_pos h
theorem if_le (m c : Nat) (h : m ≤ c) (a b : Option Value) : (if m ≤ c then a else b) = a := if_pos h
theorem s_sl_str (P : Program) (t : TypeId) (e : Env) (s : ByteArray) (lo hi : Option Operand) : sliceV P t e (.string s) lo hi = if (tk P t).map (·.kind) = some 3 then (hiV e hi s.size s.size).bind fun m => (loV e lo m).map fun l => .string (s.extract l m) else none := rfl
theorem cut_isRow {v : Value} {n lo m sz : Nat} (hr : IsRow v n) (h1 : lo ≤ m) (h2 : m ≤ rowC v) : IsRow (cutV v sz lo m) (m - lo) := by
  rcases hr with ⟨rfl, rfl⟩ | ⟨b, off, cap, rfl, h⟩
  · simp only [rowC] at h2
    obtain rfl : m = 0 := by omega
    exact .inl ⟨by simp [cutV], by omega⟩
  · simp only [rowC] at h2
    exact .inr ⟨b, off + lo * sz, cap - lo, rfl, by omega⟩
theorem cut_ne {v : Value} {n lo m sz : Nat} (hr : IsRow v n) (hv : v ≠ .slice none 0 0) : cutV v sz lo m ≠ .slice none 0 0 ∧ rowB (cutV v sz lo m) = rowB v ∧ rowO (cutV v sz lo m) = rowO v + lo * sz ∧ rowC (cutV v sz lo m) = rowC v - lo := by
  rcases hr with ⟨h1, _⟩ | ⟨b, off, cap, rfl, h⟩
  · exact (hv h1).elim
  · simp [cutV, rowB, rowO, rowC]

theorem sub_flatten {l m : List (List Nat)} (h : l.Sublist m) : l.flatten.Sublist m.flatten := by
  induction h with
  | slnil => exact .slnil
  | cons a _ ih => rw [List.flatten_cons]; exact ih.trans (List.sublist_append_right _ _)
  | cons_cons a _ ih => rw [List.flatten_cons, List.flatten_cons]; exact List.Sublist.append (.refl _) ih

section
variable {α : Type} [Rep α] {el : TypeId} {h h' : Heap} {l : List α} {v : Value} {fp : List Nat}
theorem rowRep.cut (hr : rowRep h l v fp) {lo m : Nat} (h1 : lo ≤ m) (h2 : m ≤ l.length) : ∃ fp', rowRep h ((l.take m).drop lo) (cutV v (Rep.sz α) lo m) fp' ∧ (∀ b ∈ fp', b ∈ fp) ∧ (fp.Nodup → fp'.Nodup) := by
  obtain ⟨g1, g2, g3⟩ := hr
  have hlen : ((l.take m).drop lo).length = m - lo := by rw [List.length_drop, List.length_take]; omega
  have hi : IsRow (cutV v (Rep.sz α) lo m) ((l.take m).drop lo).length := by rw [hlen]; exact cut_isRow g1 h1 (Nat.le_trans h2 g1.cap)
  rcases g3 with ⟨rfl, rfl⟩ | ⟨cs, fps, hne, hc, rfl, hcl⟩
  · exact ⟨[], ⟨hi, by omega, .inl ⟨by simp, rfl⟩⟩, by simp, fun h => h⟩
  · obtain ⟨e1, e2, e3, e4⟩ := cut_ne (lo := lo) (m := m) (sz := Rep.sz α) g1 hne
    obtain ⟨k, hk, hle, rfl⟩ := cellsAt_getB hc
    have hm1 : m * Rep.sz α ≤ l.length * Rep.sz α := Nat.mul_le_mul_right _ h2
    have hm2 : lo * Rep.sz α ≤ m * Rep.sz α := Nat.mul_le_mul_right _ h1
    have hm3 : (m - lo) * Rep.sz α = m * Rep.sz α - lo * Rep.sz α := Nat.sub_mul _ _ _
    have hd := (hcl.take h2).drop (m := lo) (by rw [List.length_take]; omega)
    refine ⟨rowB v :: ((fps.take m).drop lo).flatten, ⟨hi, by omega, .inr ⟨_, _, e1, ?_, ?_, hd⟩⟩, ?_, ?_⟩
    · rw [e2, e3, hlen, cellsAt_of hk (by omega), List.take_take, Nat.min_eq_left hm1, List.drop_take, List.drop_drop, hm3]
    · rw [e2]
    · intro b hb
      rcases List.mem_cons.1 hb with rfl | hb
      · simp
      · obtain ⟨f, hf, hb⟩ := List.mem_flatten.1 hb
        exact List.mem_cons_of_mem _ (List.mem_flatten.2 ⟨f, List.mem_of_mem_take (List.mem_of_mem_drop hf), hb⟩)
    · intro hnd
      refine List.Nodup.sublist ?_ hnd
      refine List.Sublist.cons_cons _ ?_
      exact sub_flatten ((List.drop_sublist _ _).trans (List.take_sublist _ _))
theorem Row.cut (hr : Row h l v) {lo m : Nat} (h1 : lo ≤ m) (h2 : m ≤ l.length) : Row h ((l.take m).drop lo) (cutV v (Rep.sz α) lo m) := by
  obtain ⟨fp, hr⟩ := hr
  obtain ⟨fp', h3, _⟩ := hr.cut h1 h2
  exact ⟨fp', h3⟩
theorem Own.toRow (o : Own el h l v fp) : Row h l v := ⟨fp, o.row⟩
theorem Own.isRow (o : Own el h l v fp) : IsRow v l.length := o.row.1
theorem Own.cut (o : Own el h l v fp) {lo m : Nat} (h1 : lo ≤ m) (h2 : m ≤ l.length) : ∃ fp', Own el h ((l.take m).drop lo) (cutV v (Rep.sz α) lo m) fp' ∧ (∀ b ∈ fp', b ∈ fp) := by
  rcases o.cases with ⟨rfl, rfl, rfl⟩ | ⟨b, off, cap, kb, fps, rfl, hle, k1, k2, k3, k4, rfl, hcl⟩
  · simp at h2; subst h2
    obtain rfl : lo = 0 := by omega
    exact ⟨[], by simpa [cutV] using Own.nil el h, by simp⟩
  · have hlen : ((l.take m).drop lo).length = m - lo := by rw [List.length_drop, List.length_take]; omega
    have hm1 : m * Rep.sz α ≤ l.length * Rep.sz α := Nat.mul_le_mul_right _ h2
    have hm2 : lo * Rep.sz α ≤ m * Rep.sz α := Nat.mul_le_mul_right _ h1
    have hm3 : (m - lo) * Rep.sz α = m * Rep.sz α - lo * Rep.sz α := Nat.sub_mul _ _ _
    have hm4 : l.length * Rep.sz α ≤ cap * Rep.sz α := Nat.mul_le_mul_right _ hle
    have hd := (hcl.take h2).drop (m := lo) (by rw [List.length_take]; omega)
    have hnd : (b :: ((fps.take m).drop lo).flatten).Nodup := o.nodup.sublist (List.Sublist.cons_cons _ (sub_flatten ((List.drop_sublist _ _).trans (List.take_sublist _ _))))
    have := Own.mk' (α := α) (el := el) (h := h) (l := (l.take m).drop lo) (b := b) (off := off + lo * Rep.sz α) (cap := cap - lo) (k := kb) (fps := (fps.take m).drop lo) (by rw [hlen]; omega)
      (by rw [hlen]; have := o.row.2.1; omega) k1 k2 k3 (by rw [Nat.sub_mul]; omega) (by
        rw [hlen, hm3, ← List.drop_drop, ← List.drop_take]
        rw [List.take_take, Nat.min_eq_left hm1] at hd
        exact hd) hnd
    rw [hlen] at this
    refine ⟨_, this, fun c hc => ?_⟩
    rcases List.mem_cons.1 hc with rfl | hc
    · simp
    · exact List.mem_cons_of_mem _ ((sub_flatten ((List.drop_sublist _ _).trans (List.take_sublist _ _))).subset hc)
theorem Own.live (o : Own el h l v fp) : ∀ b ∈ fp, b < h.length := o.row.live
end

/-! ### appending what has just been built -/
theorem append_elems {α : Type} [Rep α] {P : Program} {t el : TypeId} {k : TK} {h : Heap} {l : List α} (ys : List α) {v : Value} {fp : List Nat} {cs : List Value} {gps : List (List Nat)} {n : Nat} {ty : TypeId} {ro ex : Bool} {K : Value → Heap → Prop}
    (ov : Own el h l v fp) (ht : tElem P t = some el) (hk : tk P el = some k) (hs : k.size = Rep.sz α)
    (hc : Cells h ys cs gps) (hd : (fp ++ gps.flatten).Nodup) (hn : ys.length = n) (hb0 : 0 < k.bytes)
    (hb : (l.length + n) * k.bytes ≤ 140737488355328)
    (next : ∀ v' h' fp', Own el h' (l ++ ys) v' fp' → Chg fp h h' → (∀ b ∈ fp', b ∈ fp ∨ b ∈ gps.flatten ∨ h.length ≤ b) → K v' h') :
    optH (appendV P t v (.slice (some ⟨h.length, 0, none⟩) n n) (h ++ [some ⟨cs, ty, ro, ex⟩])) K := by
  subst hn
  have hx1 := hc.length.1
  have hle : l.length + ys.length ≤ 140737488355328 := Nat.le_trans (Nat.le_mul_of_pos_right _ hb0) hb
  have ov' : Own el (h ++ [some ⟨cs, ty, ro, ex⟩]) l v fp := ov.frame fun b hb => getB_append_left (ov.live b hb)
  have hc' : Cells (h ++ [some ⟨cs, ty, ro, ex⟩]) ys cs gps := hc.frame fun b hb => getB_append_left (hc.live b hb)
  obtain ⟨v', h', fp', e, o, c, m⟩ := own_append ov' ht hk hs (x := .slice (some ⟨h.length, 0, none⟩) ys.length ys.length) rfl (by rw [rowV_cells (cellsAt_of getB_append_new (by simp only []; omega))]; simp [List.take_of_length_le (Nat.le_of_eq hx1)]) hc' hd hb (by omega)
  rw [e]
  refine next v' h' fp' o ?_ fun b hb => ?_
  · exact Chg.trans (S := fp) (Ext.one h _).chg c fun x hx => .inl hx
  · rcases m b hb with h1 | h1 | h1
    · exact .inl h1
    · exact .inr (.inl h1)
    · exact .inr (.inr (by simp at h1; omega))

/-! ### making and writing -/
theorem cells_rep {α : Type} [Rep α] {h : Heap} {x : α} {c : List Value} (hx : Rep.rep h x c []) (n : Nat) : Cells h (List.replicate n x) (rep n c) (List.replicate n []) := by
  induction n with
  | zero => exact ⟨rfl, rfl⟩
  | succ n ih => exact ⟨c, [], rep n c, List.replicate n [], rfl, rfl, hx, ih⟩
theorem flat_nils (n : Nat) : (List.replicate n ([] : List Nat)).flatten = [] := by induction n with
  | zero => rfl
  | succ n ih => simp [List.replicate_succ]

theorem make_row {α : Type} [Rep α] {P : Program} {t el : TypeId} {k : TK} {h : Heap} {kk kk' : IntKind} {n : Nat} (x : α) {K : Value → Heap → Prop}
    (ht : tElem P t = some el) (hk : tk P el = some k) (hx : ∀ h, Rep.rep h x k.zero []) (hb0 : 0 < k.bytes) (hb : n * k.bytes ≤ 140737488355328)
    (next : ∀ v h', Ext h h' → Own el h' (List.replicate n x) v [h.length] → rowC v = n → v ≠ .slice none 0 0 → K v h') :
    optH (makeSliceV P t (.int kk n) (.int kk' n) h) K := by
  have hle : n ≤ 140737488355328 := Nat.le_trans (Nat.le_mul_of_pos_right _ hb0) hb
  simp only [makeSliceV, ht, hk, Option.bind_some]
  have hh : (n : Int) * (k.bytes : Int) ≤ 140737488355328 := by rw [← Int.natCast_mul]; exact Int.ofNat_le.2 hb
  rw [if_pos ⟨by omega, by omega, hh⟩]
  have hz := Rep.len (hx h)
  have hl := V.rep_length n k.zero
  have := Own.mk' (α := α) (el := el) (h := h ++ [some ⟨rep n k.zero, el, false, true⟩]) (l := List.replicate n x) (b := h.length) (off := 0) (cap := n) (fps := List.replicate n []) (k := ⟨rep n k.zero, el, false, true⟩)
    (Nat.le_of_eq List.length_replicate) (by rw [List.length_replicate]; omega) getB_append_new rfl rfl (by rw [Nat.zero_add]; exact (hl.trans (by rw [hz])).symm) (by
      simp only [List.drop_zero, List.length_replicate]
      rw [List.take_of_length_le (by rw [hl, hz]; omega)]
      exact cells_rep (hx _) n) (by rw [flat_nils]; simp)
  exact next _ _ (Ext.one h _) (by simpa [flat_nils] using this) rfl (by simp)

/-- A whole element is written. -/
theorem own_set {α : Type} [Rep α] {el : TypeId} {h : Heap} {l : List α} {v : Value} {fp : List Nat} {cs : List Value} {f : List Nat} {i : Nat} {y : α}
    (ov : Own el h l v fp) (hi : i < l.length) (hy : Rep.rep h y cs f) (hd : ∀ b ∈ f, b ∉ fp) (hf : f.Nodup) :
    ∃ h' fp', writeB h (rowB v) (rowO v + i * Rep.sz α) cs = some h' ∧ Own el h' (l.set i y) v fp' ∧ Chg [rowB v] h h' ∧ h'.length = h.length ∧ (∀ b ∈ fp', b ∈ fp ∨ b ∈ f) := by
  rcases ov.cases with ⟨rfl, rfl, rfl⟩ | ⟨b, off, cap, kb, fps, rfl, hle, h1, h2, h3, h4, rfl, hcl⟩
  · simp at hi
  · obtain ⟨kc, kty, kro, kex⟩ := kb
    simp only at h2 h3 h4 hcl
    subst h2; subst h3
    simp only [rowB, rowO]
    have hmul : l.length * Rep.sz α ≤ cap * Rep.sz α := Nat.mul_le_mul_right _ hle
    have him : i * Rep.sz α + Rep.sz α ≤ l.length * Rep.sz α := by rw [← Nat.succ_mul]; exact Nat.mul_le_mul_right _ hi
    have hyl := Rep.len hy
    have hwl : off + i * Rep.sz α + cs.length ≤ kc.length := by omega
    have hg : getB (h.set b (some ⟨putCells kc (off + i * Rep.sz α) cs, kty, false, kex⟩)) b = some ⟨putCells kc (off + i * Rep.sz α) cs, kty, false, kex⟩ := by rw [getB_set (getB_lt h1), if_pos rfl]
    have hframe : ∀ c, c ≠ b → getB (h.set b (some ⟨putCells kc (off + i * Rep.sz α) cs, kty, false, kex⟩)) c = getB h c := fun c hc => by rw [getB_set (getB_lt h1), if_neg hc]
    have hnd := List.nodup_cons.1 ov.nodup
    have hfl : ∀ c ∈ fps.flatten, c ≠ b := fun c hc e => by subst e; exact hnd.1 hc
    -- the row in three parts
    obtain ⟨x, hx⟩ : ∃ x, l[i]? = some x := ⟨_, List.getElem?_eq_getElem hi⟩
    have hl3 : l = l.take i ++ [x] ++ l.drop (i + 1) := by
      have h1 : l.drop i = x :: l.drop (i + 1) := by
        obtain ⟨_, rfl⟩ := List.getElem?_eq_some_iff.1 hx
        exact List.drop_eq_getElem_cons _
      conv => lhs; rw [← List.take_append_drop i l, h1]
      simp
    have hset : l.set i y = l.take i ++ [y] ++ l.drop (i + 1) := by
      rw [List.set_eq_take_append_cons_drop, if_pos hi]; simp
    have hc1 := hcl.take (m := i) (by omega)
    have hc3 := hcl.drop (m := i + 1) (by omega)
    have hfp : fps.length = l.length := hcl.length.2
    have hcc := ((hc1.frame (h' := h.set b (some ⟨putCells kc (off + i * Rep.sz α) cs, kty, false, kex⟩)) fun c hc => hframe c (hfl c (by
        obtain ⟨g, hg, hc⟩ := List.mem_flatten.1 hc
        exact List.mem_flatten.2 ⟨g, List.mem_of_mem_take hg, hc⟩))).append (Cells.one (Rep.frame hy fun c hc => hframe c fun e => hd c hc (by rw [e]; simp)))).append
      (hc3.frame fun c hc => hframe c (hfl c (by
        obtain ⟨g, hg, hc⟩ := List.mem_flatten.1 hc
        exact List.mem_flatten.2 ⟨g, List.mem_of_mem_drop hg, hc⟩)))
    rw [← hset] at hcc
    refine ⟨_, b :: (fps.take i ++ [f] ++ fps.drop (i + 1)).flatten, by simp only [writeB, h1, Bool.not_false, Bool.true_and, decide_eq_true hwl, if_true], ?_, ⟨by simp, fun c _ hc => hframe c (by simpa using hc)⟩, by simp, ?_⟩
    · have hll : (l.set i y).length = l.length := by simp
      have := Own.mk' (α := α) (el := kty) (l := l.set i y) (b := b) (off := off) (cap := cap) (k := ⟨putCells kc (off + i * Rep.sz α) cs, kty, false, kex⟩) (fps := fps.take i ++ [f] ++ fps.drop (i + 1)) (h := h.set b (some ⟨putCells kc (off + i * Rep.sz α) cs, kty, false, kex⟩))
        (by rw [hll]; exact hle) (by rw [hll]; exact ov.row.2.1) hg rfl rfl (by simp only [putCells_length hwl]; exact h4) ?_ ?_
      · rw [hll] at this; exact this
      · have e : (List.drop off (putCells kc (off + i * Rep.sz α) cs)).take ((l.set i y).length * Rep.sz α) =
            List.take (i * Rep.sz α) (List.take (l.length * Rep.sz α) (List.drop off kc)) ++ cs ++ List.drop ((i + 1) * Rep.sz α) (List.take (l.length * Rep.sz α) (List.drop off kc)) := by
          have hs1 : (i + 1) * Rep.sz α = i * Rep.sz α + Rep.sz α := Nat.succ_mul _ _
          have la : (List.take (i * Rep.sz α) (List.take (l.length * Rep.sz α) (List.drop off kc))).length = i * Rep.sz α := by simp only [List.length_take, List.length_drop]; omega
          apply List.ext_getElem?
          intro j
          rw [hll, List.getElem?_take, List.append_assoc]
          by_cases hj : j < l.length * Rep.sz α
          · rw [if_pos hj, List.getElem?_drop]
            by_cases hj1 : j < i * Rep.sz α
            · rw [putCells_out hwl (.inl (by omega)), List.getElem?_append_left (by omega), List.getElem?_take, if_pos hj1, List.getElem?_take, if_pos hj, List.getElem?_drop]
            · rw [List.getElem?_append_right (by omega), la]
              by_cases hj2 : j < i * Rep.sz α + Rep.sz α
              · rw [putCells_in hwl (by omega) (by omega), List.getElem?_append_left (by omega)]
                congr 1; omega
              · rw [putCells_out hwl (.inr (by omega)), List.getElem?_append_right (by omega), List.getElem?_drop, List.getElem?_take, if_pos (by omega), List.getElem?_drop]
                congr 1; omega
          · rw [if_neg hj]
            symm
            rw [List.getElem?_eq_none_iff]
            simp only [List.length_append, List.length_take, List.length_drop]; omega
        rw [e]; exact hcc
      · refine List.nodup_cons.2 ⟨fun hm => ?_, ?_⟩
        · simp only [List.flatten_append, List.mem_append, List.flatten_cons, List.flatten_nil, List.append_nil] at hm
          rcases hm with (hm | hm) | hm
          · exact hnd.1 ((sub_flatten (List.take_sublist _ _)).subset hm)
          · exact hd b hm (by simp)
          · exact hnd.1 ((sub_flatten (List.drop_sublist _ _)).subset hm)
        · have hsplit : (fps.take i).flatten ++ (fps.drop i).flatten = fps.flatten := by rw [← List.flatten_append, List.take_append_drop]
          have hn2 := hnd.2
          rw [← hsplit] at hn2
          have hn3 := List.nodup_append.1 hn2
          have hsub : (fps.drop (i + 1)).flatten.Sublist (fps.drop i).flatten := by
            refine sub_flatten ?_
            rw [← List.drop_drop]; exact List.drop_sublist _ _
          simp only [List.flatten_append, List.flatten_cons, List.flatten_nil, List.append_nil]
          refine List.nodup_append.2 ⟨List.nodup_append.2 ⟨hn3.1, hf, fun a ha c hc e => ?_⟩, hn3.2.1.sublist hsub, fun a ha c hc e => ?_⟩
          · subst e; exact hd a hc (List.mem_cons_of_mem _ ((sub_flatten (List.take_sublist _ _)).subset ha))
          · subst e
            rcases List.mem_append.1 ha with ha | ha
            · exact hn3.2.2 a ha a (hsub.subset hc) rfl
            · exact hd a ha (List.mem_cons_of_mem _ ((sub_flatten (List.drop_sublist _ _)).subset hc))
    · intro c hc
      simp only [List.mem_cons, List.flatten_append, List.mem_append, List.flatten_cons, List.flatten_nil, List.append_nil] at hc
      rcases hc with rfl | (hc | hc) | hc
      · exact .inl (by simp)
      · exact .inl (List.mem_cons_of_mem _ ((sub_flatten (List.take_sublist _ _)).subset hc))
      · exact .inr hc
      · exact .inl (List.mem_cons_of_mem _ ((sub_flatten (List.drop_sublist _ _)).subset hc))
end Go.V

/- The layer V, part 18: rows that grow. -/
import Derived.Test.YtheliocfcjkbhaaDoorV17
set_option linter.all false
namespace Go.V
open Go Go.RowKit

/-- Only the blocks of S have been changed. -/
structure Chg (S : List Nat) (h h' : Heap) : Prop where
  le : h.length ≤ h'.length
  eq : ∀ b, b < h.length → b ∉ S → getB h' b = getB h b
theorem Chg.ext {S : List Nat} {a h h' : Heap} (c : Chg S h h') (e : Ext a h) (hs : ∀ b ∈ S, a.length ≤ b) : Ext a h' :=
  ⟨Nat.le_trans e.le c.le, fun b hb => (c.eq b (Nat.lt_of_lt_of_le hb e.le) fun hm => by have := hs b hm; omega).trans (e.eq b hb)⟩
theorem Chg.trans {S T : List Nat} {a b c : Heap} (h1 : Chg S a b) (h2 : Chg T b c) (ht : ∀ x ∈ T, x ∈ S ∨ a.length ≤ x) : Chg S a c :=
  ⟨Nat.le_trans h1.le h2.le, fun x hx hs => (h2.eq x (Nat.lt_of_lt_of_le hx h1.le) fun hm => by rcases ht x hm with h | h; exact hs h; omega).trans (h1.eq x hx hs)⟩
theorem Ext.chg {S : List Nat} {h h' : Heap} (e : Ext h h') : Chg S h h' := ⟨e.le, fun b hb _ => e.eq b hb⟩

theorem getB_new_snoc {h : Heap} {k : Blk} : getB (h ++ [some k]) h.length = some k := getB_append_new
theorem getC_new {h : Heap} {k : Blk} {off : Nat} : getC (h ++ [some k]) h.length off = k.cells[off]? := by unfold getC; rw [getB_append_new]; rfl
theorem getC_app {h : Heap} {x : Option Blk} {b off : Nat} (hb : b < h.length) : getC (h ++ [x]) b off = getC h b off := by unfold getC; rw [getB_append_left hb]
theorem cellsAt_app {h : Heap} {x : Option Blk} {b off n : Nat} (hb : b < h.length) : cellsAt (h ++ [x]) b off n = cellsAt h b off n := cellsAt_congr (getB_append_left hb)
theorem cellsAt_new {h : Heap} {k : Blk} {off n : Nat} : cellsAt (h ++ [some k]) h.length off n = if off + n ≤ k.cells.length then some ((k.cells.drop off).take n) else none := by unfold cellsAt; rw [getB_append_new]

/-- A row whose block is this function's own: it may be written and appended to. -/
structure Own {α : Type} [Rep α] (el : TypeId) (h : Heap) (l : List α) (v : Value) (fp : List Nat) : Prop where
  row : rowRep h l v fp
  own : (v = .slice none 0 0 ∧ fp = []) ∨ ∃ k, v ≠ .slice none 0 0 ∧ getB h (rowB v) = some k ∧ k.ro = false ∧ k.ty = el ∧ rowO v + rowC v * Rep.sz α = k.cells.length ∧ rowB v ∈ fp
  nodup : fp.Nodup

section
variable {α : Type} [Rep α] {el : TypeId} {h h' : Heap} {l : List α} {v : Value} {fp : List Nat}
theorem Own.frame (o : Own el h l v fp) (hf : ∀ b ∈ fp, getB h' b = getB h b) : Own el h' l v fp := by
  refine ⟨o.row.frame hf, ?_, o.nodup⟩
  rcases o.own with h1 | ⟨k, h0, h1, h2, h3, h4, h5⟩
  · exact .inl h1
  · exact .inr ⟨k, h0, (hf _ h5).trans h1, h2, h3, h4, h5⟩
theorem Own.nil (el : TypeId) (h : Heap) : Own (α := α) el h [] (.slice none 0 0) [] :=
  ⟨⟨.inl ⟨rfl, rfl⟩, by simp, .inl ⟨rfl, rfl⟩⟩, .inl ⟨rfl, rfl⟩, List.nodup_nil⟩
/-- What an own row's shape is. -/
theorem Own.cases (o : Own el h l v fp) : (v = .slice none 0 0 ∧ l = [] ∧ fp = []) ∨
    ∃ (b off cap : Nat) (k : Blk) (fps : List (List Nat)), v = .slice (some ⟨b, off, none⟩) l.length cap ∧ l.length ≤ cap ∧ getB h b = some k ∧ k.ro = false ∧ k.ty = el ∧ off + cap * Rep.sz α = k.cells.length ∧ fp = b :: fps.flatten ∧ Cells h l ((k.cells.drop off).take (l.length * Rep.sz α)) fps := by
  obtain ⟨⟨hr, hn, h3⟩, ho, hd⟩ := o
  rcases ho with ⟨rfl, rfl⟩ | ⟨k, h0, h1, h2, h3', h4, h5⟩
  · rcases hr with ⟨_, h1⟩ | ⟨b, off, cap, h1, _⟩
    · exact .inl ⟨rfl, List.length_eq_zero_iff.1 h1, rfl⟩
    · simp at h1
  · rcases hr with ⟨hr, _⟩ | ⟨b, off, cap, rfl, hle⟩
    · exact (h0 hr).elim
    · rcases h3 with ⟨_, rfl⟩ | ⟨cs, fps, hne, hc, rfl, hcs⟩
      · simp at h5
      · obtain ⟨k', hk', hlen, rfl⟩ := cellsAt_getB hc
        simp only [rowB, rowO, rowC] at h1 h4 hk' hcs ⊢
        obtain rfl : k = k' := by rw [h1] at hk'; simpa using hk'
        exact .inr ⟨b, off, cap, k, fps, rfl, hle, h1, h2, h3', h4, rfl, hcs⟩
theorem Own.mk' {b off cap : Nat} {k : Blk} {fps : List (List Nat)} (hle : l.length ≤ cap) (hn : l.length ≤ 9223372036854775807) (h1 : getB h b = some k) (h2 : k.ro = false) (h3 : k.ty = el) (h4 : off + cap * Rep.sz α = k.cells.length)
    (hc : Cells h l ((k.cells.drop off).take (l.length * Rep.sz α)) fps) (hd : (b :: fps.flatten).Nodup) : Own el h l (.slice (some ⟨b, off, none⟩) l.length cap) (b :: fps.flatten) := by
  have hm : l.length * Rep.sz α ≤ cap * Rep.sz α := Nat.mul_le_mul_right _ hle
  refine ⟨⟨.inr ⟨b, off, cap, rfl, hle⟩, hn, .inr ⟨_, fps, by simp, cellsAt_of h1 (by simp only [rowO]; omega), rfl, hc⟩⟩, .inr ⟨k, by simp, h1, h2, h3, h4, by simp [rowB]⟩, hd⟩
end

theorem getB_kill {h : Heap} {b c : Nat} (hc : c ≠ b) : getB (killB h b) c = getB h c := by
  unfold killB
  split
  · rename_i k hk
    split
    · rw [getB_set (getB_lt hk), if_neg hc]
    · rfl
  · rfl
theorem kill_length (h : Heap) (b : Nat) : (killB h b).length = h.length := by
  unfold killB
  split
  · split <;> simp
  · rfl
theorem rowV_cells {h : Heap} {size n b off : Nat} {len cap : Nat} {cs : List Value} (hc : cellsAt h b off (n * size) = some cs) : rowV h size n (.slice (some ⟨b, off, none⟩) len cap) = some cs := by
  simp only [rowV]
  by_cases h0 : n = 0
  · subst h0
    have := cellsAt_len hc
    rw [if_pos rfl, List.eq_nil_of_length_eq_zero (by omega : cs.length = 0)]
  · rw [if_neg h0]; exact hc

/-- append, with its new elements told. -/
theorem own_append {α : Type} [Rep α] {P : Program} {t el : TypeId} {k : TK} {h : Heap} {l ys : List α} {v x : Value} {fp : List Nat} {cs : List Value} {gps : List (List Nat)}
    (ov : Own el h l v fp) (ht : tElem P t = some el) (hk : tk P el = some k) (hs : k.size = Rep.sz α)
    (hx : lenV x = some ys.length) (hr : rowV h (Rep.sz α) ys.length x = some cs) (hc : Cells h ys cs gps) (hd : (fp ++ gps.flatten).Nodup)
    (hb : (l.length + ys.length) * k.bytes ≤ 140737488355328) (hn : l.length + ys.length ≤ 9223372036854775807) :
    ∃ v' h' fp', appendV P t v x h = some (v', h') ∧ Own el h' (l ++ ys) v' fp' ∧ Chg fp h h' ∧ (∀ b ∈ fp', b ∈ fp ∨ b ∈ gps.flatten ∨ h.length ≤ b) := by
  have hd1 := (List.nodup_append.1 hd)
  have hlen := hc.length
  rcases ov.cases with ⟨rfl, rfl, rfl⟩ | ⟨b, off, cap, kb, fps, rfl, hle, h1, h2, h3, h4, rfl, hcl⟩
  · -- nothing there as yet
    simp only [appendV, ht, hk, Option.bind_some, hx, hs, hr]
    by_cases hy : ys.length = 0
    · obtain rfl := List.length_eq_zero_iff.1 hy
      obtain ⟨rfl, rfl⟩ := hc
      exact ⟨.slice none 0 0, h, [], by simp, by simpa using Own.nil el h, (Ext.refl h).chg, by simp⟩
    · simp only [List.length_nil] at hb hn
      rw [if_neg (show ¬ (0 + ys.length ≤ 0) by omega), if_pos hb]
      simp only [if_true]
      refine ⟨_, _, h.length :: gps.flatten, rfl, ?_, (Ext.one h _).chg, ?_⟩
      · have hg : getB (h ++ [some ⟨cs, el, false, false⟩]) h.length = some ⟨cs, el, false, false⟩ := getB_append_new
        have hfr : Cells (h ++ [some ⟨cs, el, false, false⟩]) ys cs gps := hc.frame fun b hb => getB_append_left (hc.live b hb)
        refine Own.mk' (l := ys) (off := 0) (cap := ys.length) (Nat.le_refl _) (by omega) hg rfl rfl (by simpa using hlen.1.symm) ?_ ?_
        · simpa [List.take_of_length_le (Nat.le_of_eq hlen.1)] using hfr
        · refine List.nodup_cons.2 ⟨fun hm => ?_, hd1.2.1⟩
          have := hc.live _ hm; omega
      · intro b hb
        rcases List.mem_cons.1 hb with rfl | hb
        · exact .inr (.inr (Nat.le_refl _))
        · exact .inr (.inl hb)
  · obtain ⟨kc, kty, kro, kex⟩ := kb
    simp only at h2 h3 h4 hcl
    subst h2; subst h3
    have hfl : ∀ c ∈ fps.flatten, c ≠ b := fun c hc e => by subst e; exact (List.nodup_cons.1 ov.nodup).1 hc
    have hgl : ∀ c ∈ gps.flatten, c ≠ b := fun c hc e => by subst e; exact hd1.2.2 c (by simp) c hc rfl
    have hll := hcl.live
    have hlc := hcl.length
    have hmul : l.length * Rep.sz α ≤ cap * Rep.sz α := Nat.mul_le_mul_right _ hle
    simp only [appendV, ht, hk, Option.bind_some, hx, hs, hr]
    by_cases hfit : l.length + ys.length ≤ cap
    · rw [if_pos hfit]
      by_cases hy : ys.length = 0
      · obtain rfl := List.length_eq_zero_iff.1 hy
        obtain ⟨rfl, rfl⟩ := hc
        exact ⟨.slice (some ⟨b, off, none⟩) l.length cap, h, _, by simp, by simpa using ov, (Ext.refl h).chg, fun b hb => .inl hb⟩
      · rw [if_neg hy]
        have hm2 : l.length * Rep.sz α + ys.length * Rep.sz α ≤ cap * Rep.sz α := by rw [← Nat.add_mul]; exact Nat.mul_le_mul_right _ hfit
        have hwl : off + l.length * Rep.sz α + cs.length ≤ kc.length := by omega
        simp only [writeB, h1, Bool.not_false, Bool.true_and, decide_eq_true hwl, if_true, Option.map_some]
        have hg : getB (h.set b (some ⟨putCells kc (off + l.length * Rep.sz α) cs, kty, false, kex⟩)) b = some ⟨putCells kc (off + l.length * Rep.sz α) cs, kty, false, kex⟩ := by rw [getB_set (getB_lt h1), if_pos rfl]
        have hframe : ∀ c, c ≠ b → getB (h.set b (some ⟨putCells kc (off + l.length * Rep.sz α) cs, kty, false, kex⟩)) c = getB h c := fun c hc => by rw [getB_set (getB_lt h1), if_neg hc]
        refine ⟨_, _, b :: (fps ++ gps).flatten, rfl, ?_, ⟨by simp, fun c _ hc => hframe c fun e => hc (by rw [e]; simp)⟩, ?_⟩
        · have := Own.mk' (α := α) (el := kty) (l := l ++ ys) (b := b) (off := off) (cap := cap) (k := ⟨putCells kc (off + l.length * Rep.sz α) cs, kty, false, kex⟩) (fps := fps ++ gps) (h := h.set b (some ⟨putCells kc (off + l.length * Rep.sz α) cs, kty, false, kex⟩))
            (by simpa using hfit) (by simpa using hn) hg rfl rfl (by simp only [putCells_length hwl]; exact h4) ?_ ?_
          · simpa using this
          · have e : (List.drop off (putCells kc (off + l.length * Rep.sz α) cs)).take ((l ++ ys).length * Rep.sz α) = (kc.drop off).take (l.length * Rep.sz α) ++ cs := by
              apply List.ext_getElem?
              intro i
              rw [List.getElem?_take, List.length_append, Nat.add_mul]
              split
              · rename_i hi
                rw [List.getElem?_drop]
                by_cases hi2 : i < l.length * Rep.sz α
                · rw [putCells_out hwl (.inl (by omega)), List.getElem?_append_left (by rw [List.length_take, List.length_drop]; omega), List.getElem?_take, if_pos hi2, List.getElem?_drop]
                · rw [putCells_in hwl (by omega) (by omega), List.getElem?_append_right (by rw [List.length_take, List.length_drop]; omega)]
                  congr 1; rw [List.length_take, List.length_drop]; omega
              · symm; rw [List.getElem?_eq_none_iff, List.length_append, List.length_take, List.length_drop]; omega
            rw [e]
            exact (hcl.frame fun c hc => hframe c (hfl c hc)).append (hc.frame fun c hc => hframe c (hgl c hc))
          · rw [List.flatten_append]; exact hd
        · intro c hc
          rw [List.flatten_append] at hc
          rcases List.mem_cons.1 hc with rfl | hc
          · exact .inl (by simp)
          · rcases List.mem_append.1 hc with hc | hc
            · exact .inl (List.mem_cons_of_mem _ hc)
            · exact .inr (.inl hc)
    · rw [if_neg hfit, if_pos hb]
      simp only [h1, Bool.not_false, Bool.true_and, Option.bind_some]
      rw [if_pos (by simp [h4, hle])]
      rw [rowV_cells (cellsAt_of h1 (by simp only []; omega))]
      simp only [Option.map_some]
      have hg : getB (killB h b ++ [some ⟨(kc.drop off).take (l.length * Rep.sz α) ++ cs, kty, false, false⟩]) h.length = some ⟨(kc.drop off).take (l.length * Rep.sz α) ++ cs, kty, false, false⟩ := by
        have := getB_append_new (h := killB h b) (k := ⟨(kc.drop off).take (l.length * Rep.sz α) ++ cs, kty, false, false⟩)
        rwa [kill_length] at this
      have hframe : ∀ c, c < h.length → c ≠ b → getB (killB h b ++ [some ⟨(kc.drop off).take (l.length * Rep.sz α) ++ cs, kty, false, false⟩]) c = getB h c := fun c hc hb => by
        rw [getB_append_left (by rw [kill_length]; exact hc), getB_kill hb]
      refine ⟨_, _, h.length :: (fps ++ gps).flatten, rfl, ?_, ⟨by simp [kill_length], fun c hc hn => hframe c hc fun e => hn (by rw [e]; simp)⟩, ?_⟩
      · have := Own.mk' (α := α) (el := kty) (l := l ++ ys) (b := h.length) (off := 0) (cap := l.length + ys.length) (fps := fps ++ gps) (Nat.le_of_eq (by simp)) (by simpa using hn) hg rfl rfl
          (by simp only [List.length_append]; rw [hlc.1, hlen.1, Nat.add_mul]; omega) ?_ ?_
        · simpa using this
        · have e : ∀ A : List Value, A.length = l.length * Rep.sz α → (A ++ cs).take ((l ++ ys).length * Rep.sz α) = A ++ cs := fun A hA => List.take_of_length_le (by rw [List.length_append, List.length_append, Nat.add_mul]; omega)
          rw [List.drop_zero, e _ hlc.1]
          exact (hcl.frame fun c hc => hframe c (hll c hc) (hfl c hc)).append (hc.frame fun c hcc => hframe c (hc.live c hcc) (hgl c hcc))
        · rw [List.flatten_append]
          refine List.nodup_cons.2 ⟨fun hm => ?_, (List.nodup_cons.1 (by simpa using hd)).2⟩
          rcases List.mem_append.1 hm with hm | hm
          · have := hll _ hm; omega
          · have := hc.live _ hm; omega
      · intro c hc
        rw [List.flatten_append] at hc
        rcases List.mem_cons.1 hc with rfl | hc
        · exact .inr (.inr (Nat.le_refl _))
        · rcases List.mem_append.1 hc with hc | hc
          · exact .inl (List.mem_cons_of_mem _ hc)
          · exact .inr (.inl hc)
end Go.V

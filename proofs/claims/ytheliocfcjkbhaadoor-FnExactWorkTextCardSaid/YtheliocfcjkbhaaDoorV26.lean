/- The layer V, part 26: small laws that walks use. -/
import Derived.Test.YtheliocfcjkbhaaDoorV25
set_option linter.all false
namespace Go.V
open Go Go.RowKit

theorem drop_cons {α : Type} {l : List α} {i : Nat} {x : α} (hx : l[i]? = some x) : l.drop i = x :: l.drop (i + 1) := by
  obtain ⟨h1, rfl⟩ := List.getElem?_eq_some_iff.1 hx
  exact List.drop_eq_getElem_cons h1
theorem get_some {α : Type} {l : List α} {i : Nat} (h : i < l.length) : ∃ x, l[i]? = some x := ⟨_, List.getElem?_eq_getElem h⟩
theorem take_succ_eq {α : Type} {l m : List α} {i : Nat} {x : α} (ht : l.take i = m.take i) (hx : l[i]? = some x) (hy : m[i]? = some x) : l.take (i + 1) = m.take (i + 1) := by
  rw [List.take_add_one, List.take_add_one, ht, hx, hy]
theorem Ext.cellsAt {h h' : Heap} (e : Ext h h') {b : Nat} (hb : b < h.length) (off n : Nat) : V.cellsAt h' b off n = V.cellsAt h b off n := cellsAt_congr (e.eq b hb)
section
variable {α : Type} [Rep α] {a h h' : Heap} {l : List α} {v : Value}
/-- The block of a row that has an element lies in the heap. -/
theorem Row.blk (hl : Row h l v) {i : Nat} {x : α} (hx : l[i]? = some x) : rowB v < h.length := by
  obtain ⟨xs, hc, _⟩ := hl.at hx
  obtain ⟨k, hk, _⟩ := cellsAt_getB hc
  exact getB_lt hk
theorem row_live (hl : Row h l v) (e : Ext h h') {i : Nat} {x : α} (hx : l[i]? = some x) : rowB v < h'.length := Nat.lt_of_lt_of_le (hl.blk hx) e.le
theorem Row.tail {m a : Nat} (hr : Row h l (cutV v (Rep.sz α) 0 m)) (e : Ext h h') (hm : m = l.length) (ha : a ≤ m) : Row h' (l.drop a) (cutV v (Rep.sz α) a m) := by
  have h1 := (hr.mono e).cut (lo := a) (m := m) ha (by omega)
  rw [List.take_of_length_le (by omega)] at h1
  have : cutV (cutV v (Rep.sz α) 0 m) (Rep.sz α) a m = cutV v (Rep.sz α) a m := by
    unfold cutV
    cases v with
    | slice b n c => cases b with
      | none => rfl
      | some b => simp
    | _ => rfl
  rwa [this] at h1
end
section
variable {α : Type} [Rep α] {a h h' : Heap} {L : List Asr} {l : List α} {b n : Nat} {cs : List Value} {ty : TypeId}
theorem Sep.as {ds : List Value} (s : Sep a h (blkA b cs ty :: L)) (e : cs = ds) : Sep a h (blkA b ds ty :: L) := e ▸ s
/-- A block that holds a whole list. -/
theorem Sep.blkRow (s : Sep a h (blkA b cs ty :: L)) (hc : ∃ fps, Cells h l cs fps ∧ fps.flatten = []) (hn : n = l.length) (hle : n ≤ 9223372036854775807) : Sep a h (repA l [.slice (some ⟨b, 0, none⟩) n n] :: L) := s.to fun fp ⟨e, ex, o⟩ hd => by
  obtain ⟨fps, hc, hf⟩ := hc
  subst hn
  have hl := hc.length.1
  by_cases h0 : l = []
  · subst h0
    exact ⟨[], ⟨_, rfl, .inr ⟨_, _, _, rfl, Nat.le_refl _⟩, by simp, .inl ⟨rfl, rfl⟩⟩, by simp, by simp⟩
  · have hcc : cellsAt h b 0 (l.length * Rep.sz α) = some cs := by
      rw [cellsAt_of o (by simp only []; omega)]
      simp [List.take_of_length_le (Nat.le_of_eq hl)]
    exact ⟨fp, ⟨_, rfl, .inr ⟨_, _, _, rfl, Nat.le_refl _⟩, hle, .inr ⟨cs, fps, by simp, hcc, by rw [e, hf]; rfl, hc⟩⟩, hd, fun _ h => h⟩
end

/-- A thing that lies where a pointer points. -/
def At {α : Type} [Rep α] (h : Heap) (b off : Nat) (x : α) : Prop := ∃ cs, cellsAt h b off (Rep.sz α) = some cs ∧ Here h x cs
section
variable {α : Type} [Rep α] {a h h' : Heap} {L : List Asr} {l : List α} {v : Value} {x : α} {b off : Nat} {cs : List Value} {ty : TypeId}
theorem At.mono (p : At h b off x) (hb : b < h.length) (e : Ext h h') : At h' b off x := by
  obtain ⟨cs, h1, h2⟩ := p; exact ⟨cs, (e.cellsAt hb off _).trans h1, h2.mono e⟩
theorem Row.ptr (hl : Row h l v) {i : Nat} (hx : l[i]? = some x) : At h (rowB v) (rowO v + i * Rep.sz α) x := hl.at hx
/-- A block of one's own that holds an x. -/
theorem Sep.ptr (s : Sep a h (blkA b cs ty :: L)) (hc : Here h x cs) : At h b 0 x := by
  obtain ⟨fp, hx⟩ := hc
  exact ⟨cs, s.rdAll (Rep.len hx).symm, fp, hx⟩
theorem at_blk {h : Heap} {k : Blk} {x : α} {cs : List Value} (hb : getB h b = some k) (hk : k.cells = cs) (hc : Here h x cs) : At h b 0 x := by
  obtain ⟨fp, hx⟩ := hc
  have hl := Rep.len hx
  subst hk
  exact ⟨k.cells, by rw [cellsAt_of hb (by omega)]; simp [← hl], fp, hx⟩
end

theorem zip_get {α β : Type} {l : List α} {m : List β} {i : Nat} {x : α} {y : β} (hx : l[i]? = some x) (hy : m[i]? = some y) : (l.zip m)[i]? = some (x, y) := by
  rw [List.zip, List.getElem?_zipWith, hx, hy]
theorem all_take {α : Type} {l : List α} {i : Nat} {x : α} (f : α → Bool) (hx : l[i]? = some x) : (l.take (i + 1)).all f = ((l.take i).all f && f x) := by
  rw [List.take_add_one, hx]; simp
theorem any_take {α : Type} {l : List α} {i : Nat} {x : α} (f : α → Bool) (hx : l[i]? = some x) : (l.take (i + 1)).any f = ((l.take i).any f || f x) := by
  rw [List.take_add_one, hx]; simp
theorem all_false {α : Type} {l : List α} {i : Nat} {x : α} {f : α → Bool} (hx : l[i]? = some x) (hf : f x = false) : l.all f = false := by
  rw [Bool.eq_false_iff]; intro h
  rw [List.all_eq_true] at h
  rw [h x (List.mem_of_getElem? hx)] at hf
  simp at hf
theorem any_true {α : Type} {l : List α} {i : Nat} {x : α} {f : α → Bool} (hx : l[i]? = some x) (hf : f x = true) : l.any f = true := List.any_eq_true.2 ⟨x, List.mem_of_getElem? hx, hf⟩

/-! ### conversions -/
theorem x_conv_int (P : Program) (s t : TypeId) (k : IntKind) (n : Int) (h : Heap) : convV P s t (.int k n) h = (tk P s).bind fun _ => (tInt P t).map fun k => (.int k (k.wrap n), h) := rfl
theorem x_conv_str (P : Program) (s t : TypeId) (b : ByteArray) (h : Heap) : convV P s t (.string b) h = if (tk P s).map (·.kind) = some 3 ∧ (tk P t).map (·.kind) = some 3 then some (.string b, h)
    else (tElem P t).bind fun el =>
      if (tk P s).map (·.kind) = some 3 ∧ tInt P el = some .u8 ∧ (tk P el).map (·.size) = some 1 then
        some (.slice (some ⟨h.length, 0, none⟩) b.size b.size, h ++ [some ⟨b.data.toList.map fun c => Value.int .u8 c.toNat, el, false, false⟩])
      else none := rfl
theorem x_conv_slice (P : Program) (s t : TypeId) (A : Option Addr) (n c : Nat) (h : Heap) : convV P s t (.slice A n c) h = (tElem P s).bind fun el =>
      if tInt P el = some .u8 ∧ (tk P el).map (·.size) = some 1 ∧ (tk P t).map (·.kind) = some 3 then
        (rowV h 1 n (.slice A n n)).bind fun cs => (bytesV cs).map fun bs => (.string ⟨bs.toArray⟩, h)
      else none := rfl
theorem wrapu_in (x : Int) (h : 0 ≤ x ∧ x ≤ 18446744073709551615) : IntKind.wrap .u64 x = x := by
  simp [IntKind.wrap, IntKind.bits, IntKind.signed]
  omega
theorem wrap8_in (x : Int) (h : 0 ≤ x ∧ x ≤ 255) : IntKind.wrap .u8 x = x := by
  simp [IntKind.wrap, IntKind.bits, IntKind.signed]
  omega
def VA := And.intro @x_conv_int @x_conv_slice

theorem Here.len {α : Type} [Rep α] {h : Heap} {x : α} {cs : List Value} (hx : Here h x cs) : cs.length = Rep.sz α := by obtain ⟨fp, hx⟩ := hx; exact Rep.len hx
/-- Elements, one behind the other; where they take blocks doesn't matter. -/
def CellsE {α : Type} [Rep α] (h : Heap) (l : List α) (cs : List Value) : Prop := ∃ fps, Cells h l cs fps
section
variable {α : Type} [Rep α] {a h h' : Heap} {l : List α} {x : α} {b off n : Nat} {cs ds : List Value} {v : Value}
theorem CellsE.nil : CellsE h ([] : List α) [] := ⟨[], rfl, rfl⟩
theorem CellsE.cons (hx : Here h x cs) (hl : CellsE h l ds) : CellsE h (x :: l) (cs ++ ds) := by
  obtain ⟨f, hx⟩ := hx; obtain ⟨fps, hl⟩ := hl; exact ⟨f :: fps, cs, f, ds, fps, rfl, rfl, hx, hl⟩
theorem Row.ofBlk (hc : cellsAt h b 0 cs.length = some cs) (hl : CellsE h l cs) (hn : n = l.length) (hle : n ≤ 9223372036854775807) : Row h l (.slice (some ⟨b, 0, none⟩) n n) := by
  obtain ⟨fps, hl⟩ := hl
  have hll := hl.length.1
  subst hn
  by_cases h0 : l = []
  · subst h0
    exact ⟨[], .inr ⟨_, _, _, rfl, Nat.le_refl _⟩, by simp, .inl ⟨rfl, rfl⟩⟩
  · exact ⟨b :: fps.flatten, .inr ⟨_, _, _, rfl, Nat.le_refl _⟩, hle, .inr ⟨cs, fps, by simp, by simp only [rowB, rowO]; rw [← hll]; exact hc, rfl, hl⟩⟩
theorem getC_lt {h : Heap} {b off : Nat} {v : Value} (hg : getC h b off = some v) : b < h.length := by
  unfold getC at hg
  cases hb : getB h b with
  | none => rw [hb] at hg; simp at hg
  | some k => exact getB_lt hb
theorem Ext.keepC {h h' : Heap} (e : Ext h h') {b off : Nat} {v : Value} (hg : V.getC h b off = some v) : V.getC h' b off = some v := (e.getC (getC_lt hg) off).trans hg
theorem Ext.keepA {h h' : Heap} (e : Ext h h') {b off n : Nat} {cs : List Value} (hg : V.cellsAt h b off n = some cs) : V.cellsAt h' b off n = some cs := by
  obtain ⟨k, hk, _⟩ := cellsAt_getB hg
  exact (e.cellsAt (getB_lt hk) off n).trans hg
theorem At.lt (p : At h b off x) : b < h.length := by
  obtain ⟨cs, h1, _⟩ := p
  obtain ⟨k, hk, _⟩ := cellsAt_getB h1
  exact getB_lt hk
theorem At.ext (p : At h b off x) (e : Ext h h') : At h' b off x := p.mono p.lt e
end

/-- As this order has it. -/
theorem draw_ord {P : Program} [Laid P] {l l' : List Oper} {e : Env} {h : Heap} {K : Env → Heap → Prop} (order : List Nat) (hok : drawOk P l.toArray order = true) (hl : order.filterMap (l[·]?) = l') (hd : opsD P l.toArray l' e h [] K) : drawK P l e h K := by
  refine .inl ⟨order, hok, ?_⟩
  have : (fun x : Nat => l.toArray[x]?) = (fun x : Nat => l[x]?) := by funext x; simp
  rw [this, hl]; exact hd

/-! ### structs that came in -/
theorem Opens.cut {α β : Type} [Rep α] [Rep β] {W : World} {cs : List Value} {o a b : Nat} (h1 : Opens α W ((cs.drop o).take a)) (h2 : Opens β W ((cs.drop (o + a)).take b)) : Opens (α × β) W ((cs.drop o).take (a + b)) := by
  have := Opens.pair h1 h2
  rwa [← List.drop_drop, ← List.take_add] at this
theorem Opens.whole {α : Type} [Rep α] {W : World} {cs : List Value} {n : Nat} (hl : cs.length = n) (h1 : Opens α W ((cs.drop 0).take n)) : Opens α W cs := by
  rwa [List.drop_zero, List.take_of_length_le (Nat.le_of_eq hl)] at h1
end Go.V

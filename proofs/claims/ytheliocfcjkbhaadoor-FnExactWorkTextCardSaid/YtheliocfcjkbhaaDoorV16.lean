/- The layer V, part 16: what lies in the heap, kind by kind. -/
import Derived.Test.YtheliocfcjkbhaaDoorV15
set_option linter.all false
namespace Go.V
open Go Go.RowKit

/-- One cell of a block. -/
def getC (h : Heap) (b off : Nat) : Option Value := (getB h b).bind (·.cells[off]?)

/-- The later heap holds what the elder one held. -/
structure Ext (h h' : Heap) : Prop where
  le : h.length ≤ h'.length
  eq : ∀ b, b < h.length → getB h' b = getB h b
theorem Ext.refl (h : Heap) : Ext h h := ⟨Nat.le_refl _, fun _ _ => rfl⟩
theorem Ext.trans {a b c : Heap} (h1 : Ext a b) (h2 : Ext b c) : Ext a c := ⟨Nat.le_trans h1.le h2.le, fun x hx => (h2.eq x (Nat.lt_of_lt_of_le hx h1.le)).trans (h1.eq x hx)⟩
theorem Ext.one (h : Heap) (x : Option Blk) : Ext h (h ++ [x]) := ⟨by simp, fun _ hb => getB_append_left hb⟩
theorem Ext.app (h g : Heap) : Ext h (h ++ g) := ⟨by simp, fun _ hb => getB_append_left hb⟩
theorem Ext.snoc {a h : Heap} (e : Ext a h) (x : Option Blk) : Ext a (h ++ [x]) := e.trans (.one h x)
theorem Ext.set {a h : Heap} (e : Ext a h) {b : Nat} (hb : a.length ≤ b) (hl : b < h.length) (x : Option Blk) : Ext a (h.set b x) :=
  ⟨by simpa using e.le, fun c hc => by rw [getB_set hl, if_neg (by omega)]; exact e.eq c hc⟩
theorem Ext.getC {h h' : Heap} (e : Ext h h') {b : Nat} (hb : b < h.length) (off : Nat) : V.getC h' b off = V.getC h b off := by unfold V.getC; rw [e.eq b hb]

theorem cellsAt_congr {h h' : Heap} {b off n : Nat} (he : getB h' b = getB h b) : cellsAt h' b off n = cellsAt h b off n := by unfold cellsAt; rw [he]
theorem getC_congr {h h' : Heap} {b off : Nat} (he : getB h' b = getB h b) : getC h' b off = getC h b off := by unfold getC; rw [he]
theorem cellsAt_getB {h : Heap} {b off n : Nat} {cs : List Value} (hc : cellsAt h b off n = some cs) : ∃ k, getB h b = some k ∧ off + n ≤ k.cells.length ∧ cs = (k.cells.drop off).take n := by
  unfold cellsAt at hc
  split at hc
  · rename_i k hk
    split at hc
    · rename_i hle
      exact ⟨k, hk, hle, by simpa using hc.symm⟩
    · simp at hc
  · simp at hc
theorem cellsAt_of {h : Heap} {b off n : Nat} {k : Blk} (hb : getB h b = some k) (hl : off + n ≤ k.cells.length) : cellsAt h b off n = some ((k.cells.drop off).take n) := by
  unfold cellsAt; rw [hb]; simp only [if_pos hl]
theorem cellsAt_getC {h : Heap} {b off n : Nat} {cs : List Value} (hc : cellsAt h b off n = some cs) (i : Nat) (hi : i < n) : getC h b (off + i) = cs[i]? := by
  obtain ⟨k, hk, hle, rfl⟩ := cellsAt_getB hc
  unfold getC; rw [hk]; simp [List.getElem?_take, hi]
theorem cellsAt_len {h : Heap} {b off n : Nat} {cs : List Value} (hc : cellsAt h b off n = some cs) : cs.length = n := by
  obtain ⟨k, hk, hle, rfl⟩ := cellsAt_getB hc
  simp; omega

/-- How a kind of data lies in cells; fp: the blocks that it takes, besides. -/
class Rep (α : Type) where
  sz : Nat
  rep : Heap → α → List Value → List Nat → Prop
  len : ∀ {h x cs fp}, rep h x cs fp → cs.length = sz
  frame : ∀ {h h' x cs fp}, rep h x cs fp → (∀ b ∈ fp, getB h' b = getB h b) → rep h' x cs fp
  live : ∀ {h x cs fp}, rep h x cs fp → ∀ b ∈ fp, b < h.length

def inI64 (n : Int) : Prop := -9223372036854775808 ≤ n ∧ n ≤ 9223372036854775807

instance : Rep Int where
  sz := 1
  rep := fun _ n cs fp => cs = [.int .i64 n] ∧ fp = [] ∧ inI64 n
  len := fun h => by rw [h.1]; rfl
  frame := fun h _ => h
  live := fun h b hb => by rw [h.2.1] at hb; simp at hb
instance : Rep Bool where
  sz := 1
  rep := fun _ n cs fp => cs = [.bool n] ∧ fp = []
  len := fun h => by rw [h.1]; rfl
  frame := fun h _ => h
  live := fun h b hb => by rw [h.2] at hb; simp at hb
instance : Rep ByteArray where
  sz := 1
  rep := fun _ s cs fp => cs = [.string s] ∧ fp = [] ∧ s.size ≤ 9223372036854775807
  len := fun h => by rw [h.1]; rfl
  frame := fun h _ => h
  live := fun h b hb => by rw [h.2.1] at hb; simp at hb
/-- A byte. -/
instance : Rep UInt8 where
  sz := 1
  rep := fun _ n cs fp => cs = [.int .u8 n.toNat] ∧ fp = []
  len := fun h => by rw [h.1]; rfl
  frame := fun h _ => h
  live := fun h b hb => by rw [h.2] at hb; simp at hb
instance {α β : Type} [Rep α] [Rep β] : Rep (α × β) where
  sz := Rep.sz α + Rep.sz β
  rep := fun h x cs fp => ∃ c1 c2 f1 f2, cs = c1 ++ c2 ∧ fp = f1 ++ f2 ∧ Rep.rep h x.1 c1 f1 ∧ Rep.rep h x.2 c2 f2
  len := fun ⟨c1, c2, f1, f2, e1, e2, h1, h2⟩ => by rw [e1, List.length_append, Rep.len h1, Rep.len h2]
  frame := fun ⟨c1, c2, f1, f2, e1, e2, h1, h2⟩ hf => ⟨c1, c2, f1, f2, e1, e2, Rep.frame h1 fun b hb => hf b (by rw [e2]; simp [hb]), Rep.frame h2 fun b hb => hf b (by rw [e2]; simp [hb])⟩
  live := fun ⟨c1, c2, f1, f2, e1, e2, h1, h2⟩ b hb => by
    rw [e2] at hb
    rcases List.mem_append.1 hb with hb | hb
    · exact Rep.live h1 b hb
    · exact Rep.live h2 b hb
@[reducible] def Rep.iso {α β : Type} [Rep α] (f : β → α) : Rep β where
  sz := Rep.sz α
  rep := fun h x cs fp => Rep.rep h (f x) cs fp
  len := fun h => Rep.len h
  frame := fun h hf => Rep.frame h hf
  live := fun h => Rep.live h

/-! ### rows -/
def rowB : Value → Nat | .slice (some a) _ _ => a.block | _ => 0
def rowO : Value → Nat | .slice (some a) _ _ => a.off | _ => 0
def rowC : Value → Nat | .slice _ _ c => c | _ => 0

/-- A slice of n elements. -/
def IsRow (v : Value) (n : Nat) : Prop :=
  (v = .slice none 0 0 ∧ n = 0) ∨ ∃ b off cap, v = .slice (some ⟨b, off, none⟩) n cap ∧ n ≤ cap

/-- Elements, one behind the other. -/
def Cells {α : Type} [Rep α] (h : Heap) : List α → List Value → List (List Nat) → Prop
  | [], cs, fps => cs = [] ∧ fps = []
  | y :: ys, cs, fps => ∃ (c : List Value) (f : List Nat) (cs' : List Value) (fps' : List (List Nat)), cs = c ++ cs' ∧ fps = f :: fps' ∧ Rep.rep h y c f ∧ Cells h ys cs' fps'

section
variable {α : Type} [Rep α] {h h' : Heap}
theorem Cells.length {ys : List α} {cs : List Value} {fps : List (List Nat)} (hc : Cells h ys cs fps) : cs.length = ys.length * Rep.sz α ∧ fps.length = ys.length := by
  induction ys generalizing cs fps with
  | nil => obtain ⟨rfl, rfl⟩ := hc; simp
  | cons y ys ih =>
    obtain ⟨c, f, cs', fps', rfl, rfl, hr, hc⟩ := hc
    obtain ⟨h1, h2⟩ := ih hc
    refine ⟨?_, by simp [h2]⟩
    rw [List.length_append, h1, Rep.len hr, List.length_cons, Nat.succ_mul]; omega
theorem Cells.frame {ys : List α} {cs : List Value} {fps : List (List Nat)} (hc : Cells h ys cs fps) (hf : ∀ b ∈ fps.flatten, getB h' b = getB h b) : Cells h' ys cs fps := by
  induction ys generalizing cs fps with
  | nil => exact hc
  | cons y ys ih =>
    obtain ⟨c, f, cs', fps', rfl, rfl, hr, hc⟩ := hc
    exact ⟨c, f, cs', fps', rfl, rfl, Rep.frame hr fun b hb => hf b (by simp [hb]), ih hc fun b hb => hf b (by rw [List.flatten_cons]; exact List.mem_append_right _ hb)⟩
theorem Cells.live {ys : List α} {cs : List Value} {fps : List (List Nat)} (hc : Cells h ys cs fps) : ∀ b ∈ fps.flatten, b < h.length := by
  induction ys generalizing cs fps with
  | nil => obtain ⟨rfl, rfl⟩ := hc; simp
  | cons y ys ih =>
    obtain ⟨c, f, cs', fps', rfl, rfl, hr, hc⟩ := hc
    intro b hb
    rw [List.flatten_cons] at hb
    rcases List.mem_append.1 hb with hb | hb
    · exact Rep.live hr b hb
    · exact ih hc b hb
theorem Cells.get {ys : List α} {cs : List Value} {fps : List (List Nat)} (hc : Cells h ys cs fps) {i : Nat} {y : α} (hy : ys[i]? = some y) : ∃ f, fps[i]? = some f ∧ Rep.rep h y ((cs.drop (i * Rep.sz α)).take (Rep.sz α)) f := by
  induction ys generalizing cs fps i with
  | nil => simp at hy
  | cons z ys ih =>
    obtain ⟨c, f, cs', fps', rfl, rfl, hr, hc⟩ := hc
    have hl := Rep.len hr
    cases i with
    | zero =>
      simp at hy; subst hy
      refine ⟨f, rfl, ?_⟩
      simp only [Nat.zero_mul, List.drop_zero]
      rw [← hl, List.take_left']; exact hr; rfl
    | succ i =>
      obtain ⟨f', h1, h2⟩ := ih hc (by simpa using hy)
      refine ⟨f', by simpa using h1, ?_⟩
      have e : (i + 1) * Rep.sz α = c.length + i * Rep.sz α := by rw [Nat.succ_mul]; omega
      rw [e, ← List.drop_drop, List.drop_left' rfl]; exact h2
theorem Cells.append {ys zs : List α} {cs ds : List Value} {fps gps : List (List Nat)} (hc : Cells h ys cs fps) (hd : Cells h zs ds gps) : Cells h (ys ++ zs) (cs ++ ds) (fps ++ gps) := by
  induction ys generalizing cs fps with
  | nil => obtain ⟨rfl, rfl⟩ := hc; simpa using hd
  | cons y ys ih =>
    obtain ⟨c, f, cs', fps', rfl, rfl, hr, hc⟩ := hc
    exact ⟨c, f, cs' ++ ds, fps' ++ gps, by simp, rfl, hr, ih hc⟩
theorem Cells.split {ys zs : List α} {cs : List Value} {fps : List (List Nat)} (hc : Cells h (ys ++ zs) cs fps) :
    Cells h ys (cs.take (ys.length * Rep.sz α)) (fps.take ys.length) ∧ Cells h zs (cs.drop (ys.length * Rep.sz α)) (fps.drop ys.length) := by
  induction ys generalizing cs fps with
  | nil => simpa [Cells] using hc
  | cons y ys ih =>
    obtain ⟨c, f, cs', fps', rfl, rfl, hr, hc⟩ := hc
    obtain ⟨h1, h2⟩ := ih hc
    have hl := Rep.len hr
    have e : (y :: ys).length * Rep.sz α = c.length + ys.length * Rep.sz α := by rw [List.length_cons, Nat.succ_mul]; omega
    refine ⟨⟨c, f, cs'.take (ys.length * Rep.sz α), fps'.take ys.length, ?_, by simp, hr, h1⟩, ?_⟩
    · rw [e, List.take_append, List.take_of_length_le (by omega)]; congr 2; omega
    · rw [e, ← List.drop_drop, List.drop_left' rfl]; simpa using h2
theorem Cells.one {y : α} {c : List Value} {f : List Nat} (hr : Rep.rep h y c f) : Cells h [y] c [f] := ⟨c, f, [], [], by simp, rfl, hr, rfl, rfl⟩
theorem Cells.take {ys : List α} {cs : List Value} {fps : List (List Nat)} (hc : Cells h ys cs fps) {m : Nat} (hm : m ≤ ys.length) : Cells h (ys.take m) (cs.take (m * Rep.sz α)) (fps.take m) := by
  have := (Cells.split (ys := ys.take m) (zs := ys.drop m) (by simpa using hc)).1
  rwa [List.length_take, Nat.min_eq_left hm] at this
theorem Cells.drop {ys : List α} {cs : List Value} {fps : List (List Nat)} (hc : Cells h ys cs fps) {m : Nat} (hm : m ≤ ys.length) : Cells h (ys.drop m) (cs.drop (m * Rep.sz α)) (fps.drop m) := by
  have := (Cells.split (ys := ys.take m) (zs := ys.drop m) (by simpa using hc)).2
  rwa [List.length_take, Nat.min_eq_left hm] at this
end

/-- A row of elements. -/
def rowRep {α : Type} [Rep α] (h : Heap) (l : List α) (v : Value) (fp : List Nat) : Prop :=
  IsRow v l.length ∧ l.length ≤ 9223372036854775807 ∧
  ((l = [] ∧ fp = []) ∨ ∃ (cs : List Value) (fps : List (List Nat)), v ≠ .slice none 0 0 ∧ cellsAt h (rowB v) (rowO v) (l.length * Rep.sz α) = some cs ∧ fp = rowB v :: fps.flatten ∧ Cells h l cs fps)

theorem rowRep.frame {α : Type} [Rep α] {h h' : Heap} {l : List α} {v : Value} {fp : List Nat} (hr : rowRep h l v fp) (hf : ∀ b ∈ fp, getB h' b = getB h b) : rowRep h' l v fp := by
  obtain ⟨h1, h2, h3⟩ := hr
  refine ⟨h1, h2, ?_⟩
  rcases h3 with h3 | ⟨k, fps, hn, hk, h5, h6⟩
  · exact .inl h3
  · have hb := hf (rowB v) (by rw [h5]; simp)
    exact .inr ⟨k, fps, hn, (cellsAt_congr hb).trans hk, h5, h6.frame fun b' hb' => hf b' (by rw [h5]; exact List.mem_cons_of_mem _ hb')⟩
theorem rowRep.live {α : Type} [Rep α] {h : Heap} {l : List α} {v : Value} {fp : List Nat} (hr : rowRep h l v fp) : ∀ b ∈ fp, b < h.length := by
  intro b hb
  obtain ⟨h1, h2, h3⟩ := hr
  rcases h3 with h3 | ⟨k, fps, hn, hk, h5, h6⟩
  · rw [h3.2] at hb; simp at hb
  · rw [h5] at hb
    rcases List.mem_cons.1 hb with rfl | hb
    · obtain ⟨k', hk', _⟩ := cellsAt_getB hk; exact getB_lt hk'
    · exact h6.live b hb

instance {α : Type} [Rep α] : Rep (List α) where
  sz := 1
  rep := fun h l cs fp => ∃ v, cs = [v] ∧ rowRep h l v fp
  len := fun ⟨v, e, _⟩ => by rw [e]; rfl
  frame := fun ⟨v, e, hr⟩ hf => ⟨v, e, hr.frame hf⟩
  live := fun ⟨v, e, hr⟩ => hr.live

/-! ### what stays -/
/-- A row that lies in the heap. -/
def Row {α : Type} [Rep α] (h : Heap) (l : List α) (v : Value) : Prop := ∃ fp, rowRep h l v fp
theorem Row.mono {α : Type} [Rep α] {h h' : Heap} {l : List α} {v : Value} (hr : Row h l v) (e : Ext h h') : Row h' l v := by
  obtain ⟨fp, hr⟩ := hr; exact ⟨fp, hr.frame fun b hb => e.eq b (hr.live b hb)⟩
/-- A thing that lies in the heap. -/
def Here {α : Type} [Rep α] (h : Heap) (x : α) (cs : List Value) : Prop := ∃ fp, Rep.rep h x cs fp
theorem Here.mono {α : Type} [Rep α] {h h' : Heap} {x : α} {cs : List Value} (hr : Here h x cs) (e : Ext h h') : Here h' x cs := by
  obtain ⟨fp, hr⟩ := hr; exact ⟨fp, Rep.frame hr fun b hb => e.eq b (Rep.live hr b hb)⟩

/-! ### steps on rows -/
section
variable {α : Type} [Rep α] {h : Heap} {l : List α} {v : Value}
theorem IsRow.len {v : Value} {n : Nat} (hr : IsRow v n) (P : Program) [Laid P] (t : TypeId) (h : Heap) (K : Value → Heap → Prop) : builtinV P .len #[t] [v] h K = ((tElem P t).isSome = true ∧ K (.int .i64 n) h) := by
  rcases hr with ⟨rfl, rfl⟩ | ⟨b, off, cap, rfl, _⟩ <;> rfl
theorem IsRow.ix {v : Value} {n : Nat} (hr : IsRow v n) (P : Program) (t : TypeId) (k : IntKind) (i : Int) (h0 : 0 ≤ i) (h1 : i < n) : indexAddrV P t v (.int k i) = (tElem P t).bind fun el => (tk P el).bind fun k => some (.pointer (some ⟨rowB v, rowO v + i.toNat * k.size, none⟩)) := by
  rcases hr with ⟨rfl, rfl⟩ | ⟨b, off, cap, rfl, _⟩
  · omega
  · simp only [indexAddrV, rowB, rowO]
    cases tElem P t with
    | none => rfl
    | some el =>
      simp only [Option.bind_some]
      cases tk P el with
      | none => rfl
      | some k => simp only [Option.bind_some, if_pos (show 0 ≤ i ∧ i < (n : Int) from ⟨h0, h1⟩)]
theorem IsRow.plain {v : Value} {n : Nat} (hr : IsRow v n) : plainV v = true := by
  rcases hr with ⟨rfl, rfl⟩ | ⟨b, off, cap, rfl, _⟩ <;> rfl
theorem IsRow.cells {v : Value} {n : Nat} (hr : IsRow v n) : cellsV v = some [v] := by
  rcases hr with ⟨rfl, rfl⟩ | ⟨b, off, cap, rfl, _⟩ <;> rfl
theorem Row.isRow (hr : Row h l v) : IsRow v l.length := by obtain ⟨fp, h1, _⟩ := hr; exact h1
theorem Row.le (hr : Row h l v) : l.length ≤ 9223372036854775807 := by obtain ⟨fp, h1, h2, _⟩ := hr; exact h2
theorem rowRep.at {fp : List Nat} (hr : rowRep h l v fp) {i : Nat} {x : α} (hx : l[i]? = some x) : ∃ xs f, cellsAt h (rowB v) (rowO v + i * Rep.sz α) (Rep.sz α) = some xs ∧ Rep.rep h x xs f ∧ (∀ b ∈ f, b ∈ fp) ∧ v ≠ .slice none 0 0 := by
  obtain ⟨h1, h2, h3⟩ := hr
  have hi := (List.getElem?_eq_some_iff.1 hx).1
  rcases h3 with ⟨rfl, _⟩ | ⟨k, fps, hn, hk, h5, h6⟩
  · simp at hi
  · obtain ⟨f, g1, g2⟩ := h6.get hx
    obtain ⟨kk, hkk, hle, rfl⟩ := cellsAt_getB hk
    have hm : i * Rep.sz α + Rep.sz α ≤ l.length * Rep.sz α := by rw [← Nat.succ_mul]; exact Nat.mul_le_mul_right _ hi
    refine ⟨_, f, cellsAt_of hkk (by omega), ?_, fun b hb => ?_, hn⟩
    · rw [List.drop_take, List.drop_drop, List.take_take, Nat.min_eq_left (by omega)] at g2
      exact g2
    · rw [h5]; exact List.mem_cons_of_mem _ (List.mem_flatten.2 ⟨f, List.mem_of_getElem? g1, hb⟩)
theorem Row.at (hr : Row h l v) {i : Nat} {x : α} (hx : l[i]? = some x) : ∃ xs, cellsAt h (rowB v) (rowO v + i * Rep.sz α) (Rep.sz α) = some xs ∧ Here h x xs := by
  obtain ⟨fp, hr⟩ := hr
  obtain ⟨xs, f, h1, h2, _⟩ := hr.at hx
  exact ⟨xs, h1, f, h2⟩
end

/-! ### reading -/
theorem l_load (P : Program) (t : TypeId) (b off : Nat) (h : Heap) : loadV P t (.pointer (some ⟨b, off, none⟩)) h = (tk P t).bind fun k => if k.agg then (cellsAt h b off k.size).map fun cs => .agg cs.toArray else getC h b off := by
  unfold loadV
  cases tk P t with
  | none => rfl
  | some k => rfl
theorem l_fieldAddr (P : Program) (t : TypeId) (b off f : Nat) : fieldAddrV P t (.pointer (some ⟨b, off, none⟩)) f = (tField P t f).bind fun x => (tk P x.2).map fun _ => .pointer (some ⟨b, off + x.1, none⟩) := rfl
end Go.V

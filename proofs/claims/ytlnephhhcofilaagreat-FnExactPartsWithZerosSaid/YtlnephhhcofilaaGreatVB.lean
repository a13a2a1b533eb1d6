/- The layer V and contracts of functions over it, or plain laws behind one statement (own work): VB=V16,V17,V18,V19,V20,V21,V22,V23,V24,V25,V26,V27,V28,V29,V30. Conditions: those told in each theorem. -/
import Derived.Test.YtlnephhhcofilaaGreatVA
import Derived.ChangeArms
import Derived.DataElems
import Derived.Laws.Strings
import Derived.Laws.StructEq
import Derived.Lib.ItoaNum
import Derived.Sort.Grow
import Derived.WalkSmall
set_option linter.all false
section
/- The layer V, part 16: what lies in the heap, kind by kind. -/
namespace Go.V
open Go Go.RowKit

/-- One cell of a block. -/
def getC (h : Heap) (b off : Nat) : Option Value := (getB h b).bind (·.cells[off]?)

/-- The later heap holds what the elder one held. -/
structure Ext (h h' : Heap) : Prop where
  le : h.length ≤ h'.length
  eq : ∀ b, b < h.length → getB h' b = getB h b
theorem Ext.refl (h : Heap) : Ext h h := ⟨Nat.le_refl _, fun _ _ => rfl⟩
theorem Ext.trans {a b c : Heap} (h1 : Ext a b) (h2 : Ext b c) : Ext a c := ⟨Nat.le_trans h1.le h2.le, fun x hx => (h2.eq x (Nat.lt_of_lt_of_le hx h1.le)).trans (h1.eq x hx)⟩
theorem Ext.one (h : Heap) (x : Option Blk) : Ext h (h ++ [x]) := ⟨by simp, fun _ hb => getB_append_left hb⟩
theorem Ext.app (h g : Heap) : Ext h (h ++ g) := ⟨by simp, fun _ hb => getB_append_left hb⟩
theorem Ext.set {a h : Heap} (e : Ext a h) {b : Nat} (hb : a.length ≤ b) (hl : b < h.length) (x : Option Blk) : Ext a (h.set b x) :=
  ⟨by simpa using e.le, fun c hc => by rw [getB_set hl, if_neg (by omega)]; exact e.eq c hc⟩
theorem Ext.getC {h h' : Heap} (e : Ext h h') {b : Nat} (hb : b < h.length) (off : Nat) : V.getC h' b off = V.getC h b off := by unfold V.getC; rw [e.eq b hb]

theorem cellsAt_congr {h h' : Heap} {b off n : Nat} (he : getB h' b = getB h b) : cellsAt h' b off n = cellsAt h b off n := by unfold cellsAt; rw [he]
theorem cellsAt_getB {h : Heap} {b off n : Nat} {cs : List Value} (hc : cellsAt h b off n = some cs) : ∃ k, getB h b = some k ∧ off + n ≤ k.cells.length ∧ cs = (k.cells.drop off).take n := by
  unfold cellsAt at hc
  split at hc
  · rename_i k hk
    split at hc
    · rename_i hle
      exact ⟨k, hk, hle, by simpa using hc.symm⟩
    · simp at hc
  · simp at hc
theorem cellsAt_of {h : Heap} {b off n : Nat} {k : Blk} (hb : getB h b = some k) (hl : off + n ≤ k.cells.length) : cellsAt h b off n = some ((k.cells.drop off).take n) := by
  unfold cellsAt; rw [hb]; simp only [if_pos hl]
theorem cellsAt_getC {h : Heap} {b off n : Nat} {cs : List Value} (hc : cellsAt h b off n = some cs) (i : Nat) (hi : i < n) : getC h b (off + i) = cs[i]? := by
  obtain ⟨k, hk, hle, rfl⟩ := cellsAt_getB hc
  unfold getC; rw [hk]; simp [List.getElem?_take, hi]
theorem cellsAt_len {h : Heap} {b off n : Nat} {cs : List Value} (hc : cellsAt h b off n = some cs) : cs.length = n := by
  obtain ⟨k, hk, hle, rfl⟩ := cellsAt_getB hc
  simp; omega

/-- How a kind of data lies in cells; fp: the blocks that it takes, besides. -/
class Rep (α : Type) where
  sz : Nat
  rep : Heap → α → List Value → List Nat → Prop
  len : ∀ {h x cs fp}, rep h x cs fp → cs.length = sz
  frame : ∀ {h h' x cs fp}, rep h x cs fp → (∀ b ∈ fp, getB h' b = getB h b) → rep h' x cs fp
  live : ∀ {h x cs fp}, rep h x cs fp → ∀ b ∈ fp, b < h.length

def inI64 (n : Int) : Prop := -9223372036854775808 ≤ n ∧ n ≤ 9223372036854775807

instance : Rep Int where
  sz := 1
  rep := fun _ n cs fp => cs = [.int .i64 n] ∧ fp = [] ∧ inI64 n
  len := fun h => by rw [h.1]; rfl
  frame := fun h _ => h
  live := fun h b hb => by rw [h.2.1] at hb; simp at hb
instance : Rep Bool where
  sz := 1
  rep := fun _ n cs fp => cs = [.bool n] ∧ fp = []
  len := fun h => by rw [h.1]; rfl
  frame := fun h _ => h
  live := fun h b hb => by rw [h.2] at hb; simp at hb
instance : Rep ByteArray where
  sz := 1
  rep := fun _ s cs fp => cs = [.string s] ∧ fp = [] ∧ s.size ≤ 9223372036854775807
  len := fun h => by rw [h.1]; rfl
  frame := fun h _ => h
  live := fun h b hb => by rw [h.2.1] at hb; simp at hb
/-- A byte. -/
instance : Rep UInt8 where
  sz := 1
  rep := fun _ n cs fp => cs = [.int .u8 n.toNat] ∧ fp = []
  len := fun h => by rw [h.1]; rfl
  frame := fun h _ => h
  live := fun h b hb => by rw [h.2] at hb; simp at hb
instance {α β : Type} [Rep α] [Rep β] : Rep (α × β) where
  sz := Rep.sz α + Rep.sz β
  rep := fun h x cs fp => ∃ c1 c2 f1 f2, cs = c1 ++ c2 ∧ fp = f1 ++ f2 ∧ Rep.rep h x.1 c1 f1 ∧ Rep.rep h x.2 c2 f2
  len := fun ⟨c1, c2, f1, f2, e1, e2, h1, h2⟩ => by rw [e1, List.length_append, Rep.len h1, Rep.len h2]
  frame := fun ⟨c1, c2, f1, f2, e1, e2, h1, h2⟩ hf => ⟨c1, c2, f1, f2, e1, e2, Rep.frame h1 fun b hb => hf b (by rw [e2]; simp [hb]), Rep.frame h2 fun b hb => hf b (by rw [e2]; simp [hb])⟩
  live := fun ⟨c1, c2, f1, f2, e1, e2, h1, h2⟩ b hb => by
    rw [e2] at hb
    rcases List.mem_append.1 hb with hb | hb
    · exact Rep.live h1 b hb
    · exact Rep.live h2 b hb
@[reducible] def Rep.iso {α β : Type} [Rep α] (f : β → α) : Rep β where
  sz := Rep.sz α
  rep := fun h x cs fp => Rep.rep h (f x) cs fp
  len := fun h => Rep.len h
  frame := fun h hf => Rep.frame h hf
  live := fun h => Rep.live h

/-! ### rows -/
def rowB : Value → Nat | .slice (some a) _ _ => a.block | _ => 0
def rowO : Value → Nat | .slice (some a) _ _ => a.off | _ => 0
def rowC : Value → Nat | .slice _ _ c => c | _ => 0

/-- A slice of n elements. -/
def IsRow (v : Value) (n : Nat) : Prop :=
  (v = .slice none 0 0 ∧ n = 0) ∨ ∃ b off cap, v = .slice (some ⟨b, off, none⟩) n cap ∧ n ≤ cap

/-- Elements, one behind the other. -/
def Cells {α : Type} [Rep α] (h : Heap) : List α → List Value → List (List Nat) → Prop
  | [], cs, fps => cs = [] ∧ fps = []
  | y :: ys, cs, fps => ∃ (c : List Value) (f : List Nat) (cs' : List Value) (fps' : List (List Nat)), cs = c ++ cs' ∧ fps = f :: fps' ∧ Rep.rep h y c f ∧ Cells h ys cs' fps'

section
variable {α : Type} [Rep α] {h h' : Heap}
theorem Cells.length {ys : List α} {cs : List Value} {fps : List (List Nat)} (hc : Cells h ys cs fps) : cs.length = ys.length * Rep.sz α ∧ fps.length = ys.length := by
  induction ys generalizing cs fps with
  | nil => obtain ⟨rfl, rfl⟩ := hc; simp
  | cons y ys ih =>
    obtain ⟨c, f, cs', fps', rfl, rfl, hr, hc⟩ := hc
    obtain ⟨h1, h2⟩ := ih hc
    refine ⟨?_, by simp [h2]⟩
    rw [List.length_append, h1, Rep.len hr, List.length_cons, Nat.succ_mul]; omega
theorem Cells.frame {ys : List α} {cs : List Value} {fps : List (List Nat)} (hc : Cells h ys cs fps) (hf : ∀ b ∈ fps.flatten, getB h' b = getB h b) : Cells h' ys cs fps := by
  induction ys generalizing cs fps with
  | nil => exact hc
  | cons y ys ih =>
    obtain ⟨c, f, cs', fps', rfl, rfl, hr, hc⟩ := hc
    exact ⟨c, f, cs', fps', rfl, rfl, Rep.frame hr fun b hb => hf b (by simp [hb]), ih hc fun b hb => hf b (by rw [List.flatten_cons]; exact List.mem_append_right _ hb)⟩
theorem Cells.live {ys : List α} {cs : List Value} {fps : List (List Nat)} (hc : Cells h ys cs fps) : ∀ b ∈ fps.flatten, b < h.length := by
  induction ys generalizing cs fps with
  | nil => obtain ⟨rfl, rfl⟩ := hc; simp
  | cons y ys ih =>
    obtain ⟨c, f, cs', fps', rfl, rfl, hr, hc⟩ := hc
    intro b hb
    rw [List.flatten_cons] at hb
    rcases List.mem_append.1 hb with hb | hb
    · exact Rep.live hr b hb
    · exact ih hc b hb
theorem Cells.get {ys : List α} {cs : List Value} {fps : List (List Nat)} (hc : Cells h ys cs fps) {i : Nat} {y : α} (hy : ys[i]? = some y) : ∃ f, fps[i]? = some f ∧ Rep.rep h y ((cs.drop (i * Rep.sz α)).take (Rep.sz α)) f := by
  induction ys generalizing cs fps i with
  | nil => simp at hy
  | cons z ys ih =>
    obtain ⟨c, f, cs', fps', rfl, rfl, hr, hc⟩ := hc
    have hl := Rep.len hr
    cases i with
    | zero =>
      simp at hy; subst hy
      refine ⟨f, rfl, ?_⟩
      simp only [Nat.zero_mul, List.drop_zero]
      rw [← hl, List.take_left']; exact hr; rfl
    | succ i =>
      obtain ⟨f', h1, h2⟩ := ih hc (by simpa using hy)
      refine ⟨f', by simpa using h1, ?_⟩
      have e : (i + 1) * Rep.sz α = c.length + i * Rep.sz α := by rw [Nat.succ_mul]; omega
      rw [e, ← List.drop_drop, List.drop_left' rfl]; exact h2
theorem Cells.append {ys zs : List α} {cs ds : List Value} {fps gps : List (List Nat)} (hc : Cells h ys cs fps) (hd : Cells h zs ds gps) : Cells h (ys ++ zs) (cs ++ ds) (fps ++ gps) := by
  induction ys generalizing cs fps with
  | nil => obtain ⟨rfl, rfl⟩ := hc; simpa using hd
  | cons y ys ih =>
    obtain ⟨c, f, cs', fps', rfl, rfl, hr, hc⟩ := hc
    exact ⟨c, f, cs' ++ ds, fps' ++ gps, by simp, rfl, hr, ih hc⟩
theorem Cells.split {ys zs : List α} {cs : List Value} {fps : List (List Nat)} (hc : Cells h (ys ++ zs) cs fps) :
    Cells h ys (cs.take (ys.length * Rep.sz α)) (fps.take ys.length) ∧ Cells h zs (cs.drop (ys.length * Rep.sz α)) (fps.drop ys.length) := by
  induction ys generalizing cs fps with
  | nil => simpa [Cells] using hc
  | cons y ys ih =>
    obtain ⟨c, f, cs', fps', rfl, rfl, hr, hc⟩ := hc
    obtain ⟨h1, h2⟩ := ih hc
    have hl := Rep.len hr
    have e : (y :: ys).length * Rep.sz α = c.length + ys.length * Rep.sz α := by rw [List.length_cons, Nat.succ_mul]; omega
    refine ⟨⟨c, f, cs'.take (ys.length * Rep.sz α), fps'.take ys.length, ?_, by simp, hr, h1⟩, ?_⟩
    · rw [e, List.take_append, List.take_of_length_le (by omega)]; congr 2; omega
    · rw [e, ← List.drop_drop, List.drop_left' rfl]; simpa using h2
theorem Cells.one {y : α} {c : List Value} {f : List Nat} (hr : Rep.rep h y c f) : Cells h [y] c [f] := ⟨c, f, [], [], by simp, rfl, hr, rfl, rfl⟩
theorem Cells.take {ys : List α} {cs : List Value} {fps : List (List Nat)} (hc : Cells h ys cs fps) {m : Nat} (hm : m ≤ ys.length) : Cells h (ys.take m) (cs.take (m * Rep.sz α)) (fps.take m) := by
  have := (Cells.split (ys := ys.take m) (zs := ys.drop m) (by simpa using hc)).1
  rwa [List.length_take, Nat.min_eq_left hm] at this
theorem Cells.drop {ys : List α} {cs : List Value} {fps : List (List Nat)} (hc : Cells h ys cs fps) {m : Nat} (hm : m ≤ ys.length) : Cells h (ys.drop m) (cs.drop (m * Rep.sz α)) (fps.drop m) := by
  have := (Cells.split (ys := ys.take m) (zs := ys.drop m) (by simpa using hc)).2
  rwa [List.length_take, Nat.min_eq_left hm] at this
end

/-- A row of elements. -/
def rowRep {α : Type} [Rep α] (h : Heap) (l : List α) (v : Value) (fp : List Nat) : Prop :=
  IsRow v l.length ∧ l.length ≤ 9223372036854775807 ∧
  ((l = [] ∧ fp = []) ∨ ∃ (cs : List Value) (fps : List (List Nat)), v ≠ .slice none 0 0 ∧ cellsAt h (rowB v) (rowO v) (l.length * Rep.sz α) = some cs ∧ fp = rowB v :: fps.flatten ∧ Cells h l cs fps)

theorem rowRep.frame {α : Type} [Rep α] {h h' : Heap} {l : List α} {v : Value} {fp : List Nat} (hr : rowRep h l v fp) (hf : ∀ b ∈ fp, getB h' b = getB h b) : rowRep h' l v fp := by
  obtain ⟨h1, h2, h3⟩ := hr
  refine ⟨h1, h2, ?_⟩
  rcases h3 with h3 | ⟨k, fps, hn, hk, h5, h6⟩
  · exact .inl h3
  · have hb := hf (rowB v) (by rw [h5]; simp)
    exact .inr ⟨k, fps, hn, (cellsAt_congr hb).trans hk, h5, h6.frame fun b' hb' => hf b' (by rw [h5]; exact List.mem_cons_of_mem _ hb')⟩
theorem rowRep.live {α : Type} [Rep α] {h : Heap} {l : List α} {v : Value} {fp : List Nat} (hr : rowRep h l v fp) : ∀ b ∈ fp, b < h.length := by
  intro b hb
  obtain ⟨h1, h2, h3⟩ := hr
  rcases h3 with h3 | ⟨k, fps, hn, hk, h5, h6⟩
  · rw [h3.2] at hb; simp at hb
  · rw [h5] at hb
    rcases List.mem_cons.1 hb with rfl | hb
    · obtain ⟨k', hk', _⟩ := cellsAt_getB hk; exact getB_lt hk'
    · exact h6.live b hb

instance {α : Type} [Rep α] : Rep (List α) where
  sz := 1
  rep := fun h l cs fp => ∃ v, cs = [v] ∧ rowRep h l v fp
  len := fun ⟨v, e, _⟩ => by rw [e]; rfl
  frame := fun ⟨v, e, hr⟩ hf => ⟨v, e, hr.frame hf⟩
  live := fun ⟨v, e, hr⟩ => hr.live

/-! ### what stays -/
/-- A row that lies in the heap. -/
def Row {α : Type} [Rep α] (h : Heap) (l : List α) (v : Value) : Prop := ∃ fp, rowRep h l v fp
theorem Row.mono {α : Type} [Rep α] {h h' : Heap} {l : List α} {v : Value} (hr : Row h l v) (e : Ext h h') : Row h' l v := by
  obtain ⟨fp, hr⟩ := hr; exact ⟨fp, hr.frame fun b hb => e.eq b (hr.live b hb)⟩
/-- A thing that lies in the heap. -/
def Here {α : Type} [Rep α] (h : Heap) (x : α) (cs : List Value) : Prop := ∃ fp, Rep.rep h x cs fp
theorem Here.mono {α : Type} [Rep α] {h h' : Heap} {x : α} {cs : List Value} (hr : Here h x cs) (e : Ext h h') : Here h' x cs := by
  obtain ⟨fp, hr⟩ := hr; exact ⟨fp, Rep.frame hr fun b hb => e.eq b (Rep.live hr b hb)⟩

/-! ### steps on rows -/
section
variable {α : Type} [Rep α] {h : Heap} {l : List α} {v : Value}
theorem IsRow.len {v : Value} {n : Nat} (hr : IsRow v n) (P : Program) [Laid P] (t : TypeId) (h : Heap) (K : Value → Heap → Prop) : builtinV P .len #[t] [v] h K = ((tElem P t).isSome = true ∧ K (.int .i64 n) h) := by
  rcases hr with ⟨rfl, rfl⟩ | ⟨b, off, cap, rfl, _⟩ <;> rfl
theorem IsRow.ix {v : Value} {n : Nat} (hr : IsRow v n) (P : Program) (t : TypeId) (k : IntKind) (i : Int) (h0 : 0 ≤ i) (h1 : i < n) : indexAddrV P t v (.int k i) = (tElem P t).bind fun el => (tk P el).bind fun k => some (.pointer (some ⟨rowB v, rowO v + i.toNat * k.size, none⟩)) := by
  rcases hr with ⟨rfl, rfl⟩ | ⟨b, off, cap, rfl, _⟩
  · omega
  · simp only [indexAddrV, rowB, rowO]
    cases tElem P t with
    | none => rfl
    | some el =>
      simp only [Option.bind_some]
      cases tk P el with
      | none => rfl
      | some k => simp only [Option.bind_some, if_pos (show 0 ≤ i ∧ i < (n : Int) from ⟨h0, h1⟩)]
theorem IsRow.plain {v : Value} {n : Nat} (hr : IsRow v n) : plainV v = true := by
  rcases hr with ⟨rfl, rfl⟩ | ⟨b, off, cap, rfl, _⟩ <;> rfl
theorem IsRow.cells {v : Value} {n : Nat} (hr : IsRow v n) : cellsV v = some [v] := by
  rcases hr with ⟨rfl, rfl⟩ | ⟨b, off, cap, rfl, _⟩ <;> rfl
theorem Row.isRow (hr : Row h l v) : IsRow v l.length := by obtain ⟨fp, h1, _⟩ := hr; exact h1
theorem Row.le (hr : Row h l v) : l.length ≤ 9223372036854775807 := by obtain ⟨fp, h1, h2, _⟩ := hr; exact h2
theorem rowRep.at {fp : List Nat} (hr : rowRep h l v fp) {i : Nat} {x : α} (hx : l[i]? = some x) : ∃ xs f, cellsAt h (rowB v) (rowO v + i * Rep.sz α) (Rep.sz α) = some xs ∧ Rep.rep h x xs f ∧ (∀ b ∈ f, b ∈ fp) ∧ v ≠ .slice none 0 0 := by
  obtain ⟨h1, h2, h3⟩ := hr
  have hi := (List.getElem?_eq_some_iff.1 hx).1
  rcases h3 with ⟨rfl, _⟩ | ⟨k, fps, hn, hk, h5, h6⟩
  · simp at hi
  · obtain ⟨f, g1, g2⟩ := h6.get hx
    obtain ⟨kk, hkk, hle, rfl⟩ := cellsAt_getB hk
    have hm : i * Rep.sz α + Rep.sz α ≤ l.length * Rep.sz α := by rw [← Nat.succ_mul]; exact Nat.mul_le_mul_right _ hi
    refine ⟨_, f, cellsAt_of hkk (by omega), ?_, fun b hb => ?_, hn⟩
    · rw [List.drop_take, List.drop_drop, List.take_take, Nat.min_eq_left (by omega)] at g2
      exact g2
    · rw [h5]; exact List.mem_cons_of_mem _ (List.mem_flatten.2 ⟨f, List.mem_of_getElem? g1, hb⟩)
theorem Row.at (hr : Row h l v) {i : Nat} {x : α} (hx : l[i]? = some x) : ∃ xs, cellsAt h (rowB v) (rowO v + i * Rep.sz α) (Rep.sz α) = some xs ∧ Here h x xs := by
  obtain ⟨fp, hr⟩ := hr
  obtain ⟨xs, f, h1, h2, _⟩ := hr.at hx
  exact ⟨xs, h1, f, h2⟩
end

/-! ### reading -/
theorem l_load (P : Program) (t : TypeId) (b off : Nat) (h : Heap) : loadV P t (.pointer (some ⟨b, off, none⟩)) h = (tk P t).bind fun k => if k.agg then (cellsAt h b off k.size).map fun cs => .agg cs.toArray else getC h b off := by
  unfold loadV
  cases tk P t with
  | none => rfl
  | some k => rfl
theorem l_fieldAddr (P : Program) (t : TypeId) (b off f : Nat) : fieldAddrV P t (.pointer (some ⟨b, off, none⟩)) f = (tField P t f).bind fun x => (tk P x.2).map fun _ => .pointer (some ⟨b, off + x.1, none⟩) := rfl
end Go.V
end

section
/- The layer V, part 17: the word for a walk. -/
namespace Go.V
open Go Go.RowKit

theorem nat_toNat (n : Nat) : ((n : Int)).toNat = n := rfl
theorem i_lit0 : (0 : Int).toNat = 0 := rfl
theorem wrap_in (x : Int) (h : -9223372036854775808 ≤ x ∧ x ≤ 9223372036854775807) : IntKind.wrap .i64 x = x := wrap64_in h.1 h.2
theorem decT : decide True = true := rfl
theorem decF : decide False = false := rfl
theorem notT : (!true) = false := rfl
theorem notF : (!false) = true := rfl
theorem tf : (true = false) = False := by simp
theorem ft : (false = true) = False := by simp

theorem st_0 (a0 : Value) (l : List Value) : startEnv (a0 :: l) 0 = a0 := rfl
theorem st_1 (a0 a1 : Value) (l : List Value) : startEnv (a0 :: a1 :: l) 1 = a1 := rfl
theorem st_2 (a0 a1 a2 : Value) (l : List Value) : startEnv (a0 :: a1 :: a2 :: l) 2 = a2 := rfl
theorem st_3 (a0 a1 a2 a3 : Value) (l : List Value) : startEnv (a0 :: a1 :: a2 :: a3 :: l) 3 = a3 := rfl
theorem st_4 (a0 a1 a2 a3 a4 : Value) (l : List Value) : startEnv (a0 :: a1 :: a2 :: a3 :: a4 :: l) 4 = a4 := rfl
theorem st_5 (a0 a1 a2 a3 a4 a5 : Value) (l : List Value) : startEnv (a0 :: a1 :: a2 :: a3 :: a4 :: a5 :: l) 5 = a5 := rfl
theorem st_6 (a0 a1 a2 a3 a4 a5 a6 : Value) (l : List Value) : startEnv (a0 :: a1 :: a2 :: a3 :: a4 :: a5 :: a6 :: l) 6 = a6 := rfl
theorem st_7 (a0 a1 a2 a3 a4 a5 a6 a7 : Value) (l : List Value) : startEnv (a0 :: a1 :: a2 :: a3 :: a4 :: a5 :: a6 :: a7 :: l) 7 = a7 := rfl

/-! ### regions that draw their order -/
def HK (P : Program) (op : Op) (held : Held) (K : Value → Heap → Held → Prop) : Value → Heap → Prop := fun v h' => if effectful P op then heldOk P held h' ∧ K v h' held else K v h' held
def loadD (o : Option Value) (t : TypeId) (a : Value) (h : Heap) (held : Held) (K : Value → Heap → Held → Prop) : Prop := match o with | some v => K v h ((t, a, v) :: held) | none => False
def opD (P : Program) [Laid P] (op : Op) (e : Env) (h : Heap) (held : Held) (K : Value → Heap → Held → Prop) : Prop :=
  match op with
  | .load t a => loadD (loadV P t (evO e a) h) t (evO e a) h held K
  | op => opV P op e h (HK P op held K)
def DK (P : Program) [Laid P] (all : Array Oper) (os : List Oper) (d : Option Tmp) (e : Env) (K : Env → Heap → Held → Prop) : Value → Heap → Held → Prop := fun v h held => opsE P all os (putV e d v) h held K
def guardD (P : Program) [Laid P] (all : Array Oper) (g : Value) (want : Bool) (op : Op) (d : Option Tmp) (os : List Oper) (e : Env) (h : Heap) (held : Held) (K : Env → Heap → Held → Prop) : Prop :=
  match g with
  | .bool b => if b = want then opD P op e h held (DK P all os d e K) else opsE P all os (putV e d SK) h held K
  | .float _ _ => opsE P all os (putV e d SK) h held K
  | _ => False
def drawK (P : Program) [Laid P] (l : List Oper) (e : Env) (h : Heap) (K : Env → Heap → Prop) : Prop := drawV P l.toArray e h K
section
variable (P : Program) [Laid P] (e : Env) (h : Heap)
theorem s_draw (Q : VX → Env → Heap → Prop) (id : Nat) (l : List Oper) : wpV P (.region id l.toArray true) e h Q = drawK P l e h (Q .norm) := rfl
theorem d_nil (all : Array Oper) (held : Held) (K : Env → Heap → Held → Prop) : opsE P all [] e h held K = K e h held := rfl
theorem d_on (all : Array Oper) (os : List Oper) (d : Option Tmp) (op : Op) (held : Held) (K : Env → Heap → Held → Prop) (o : Oper) (ho : o.op = op) (hd : o.dst = d) (hg : guardV all o e = some true) : opsE P all (o :: os) e h held K = opD P op e h held (DK P all os d e K) := by
  subst ho; subst hd
  conv => lhs; unfold opsE
  simp only [hg]
  unfold opD loadD
  cases o.op <;> rfl
theorem d_cons (all : Array Oper) (held : Held) (K : Env → Heap → Held → Prop) (d : Option Tmp) (op : Op) (t : TypeId) (pos : String) (after : Array Edge) (os : List Oper) :
    opsE P all (⟨d, op, t, pos, after, none⟩ :: os) e h held K = opD P op e h held (DK P all os d e K) := d_on P e h all os d op held K _ rfl rfl rfl
theorem d_guard (l : List Oper) (held : Held) (K : Env → Heap → Held → Prop) (d : Option Tmp) (op : Op) (t : TypeId) (pos : String) (after : Array Edge) (os : List Oper) (j : Nat) (want : Bool) :
    opsE P l.toArray (⟨d, op, t, pos, after, some (j, want)⟩ :: os) e h held K = match (l[j]?).bind (·.dst) with | some t => guardD P l.toArray (e t) want op d os e h held K | none => False := by
  have hgv : guardV l.toArray ⟨d, op, t, pos, after, some (j, want)⟩ e = match (l[j]?).bind (·.dst) with | some t => (match e t with | .bool b => some (b == want) | .float _ _ => some false | _ => none) | none => none := by
    simp only [guardV, List.getElem?_toArray]
    rfl
  cases hj : (l[j]?).bind (·.dst) with
  | none =>
    rw [hj] at hgv
    unfold opsE; simp only [hgv]
  | some s =>
    rw [hj] at hgv
    simp only [] at hgv ⊢
    unfold guardD
    cases hes : e s with
    | bool b =>
      rw [hes] at hgv
      by_cases hb : b = want
      · subst hb
        simp only [beq_self_eq_true, if_true] at hgv ⊢
        exact d_on P e h _ os d op held K _ rfl rfl hgv
      · simp only [if_neg hb]
        have : (b == want) = false := by simpa using hb
        simp only [this] at hgv
        exact propext (opsE_cons_off hgv)
    | float k n => rw [hes] at hgv; exact propext (opsE_cons_off hgv)
    | _ => rw [hes] at hgv; unfold opsE; simp only [hgv]
theorem d_guard_tt (all : Array Oper) (op : Op) (d : Option Tmp) (os : List Oper) (held : Held) (K : Env → Heap → Held → Prop) : guardD P all (.bool true) true op d os e h held K = opD P op e h held (DK P all os d e K) := rfl
theorem d_guard_ff (all : Array Oper) (op : Op) (d : Option Tmp) (os : List Oper) (held : Held) (K : Env → Heap → Held → Prop) : guardD P all (.bool false) false op d os e h held K = opD P op e h held (DK P all os d e K) := rfl
theorem d_guard_tf (all : Array Oper) (op : Op) (d : Option Tmp) (os : List Oper) (held : Held) (K : Env → Heap → Held → Prop) : guardD P all (.bool true) false op d os e h held K = opsE P all os (putV e d SK) h held K := rfl
theorem d_guard_ft (all : Array Oper) (op : Op) (d : Option Tmp) (os : List Oper) (held : Held) (K : Env → Heap → Held → Prop) : guardD P all (.bool false) true op d os e h held K = opsE P all os (putV e d SK) h held K := rfl
theorem d_guard_skip (all : Array Oper) (want : Bool) (op : Op) (d : Option Tmp) (os : List Oper) (held : Held) (K : Env → Heap → Held → Prop) :
    guardD P all SK want op d os e h held K = opsE P all os (putV e d SK) h held K := rfl
theorem d_K (all : Array Oper) (os : List Oper) (d : Option Tmp) (K : Env → Heap → Held → Prop) (v : Value) (held : Held) : DK P all os d e K v h held = opsE P all os (putV e d v) h held K := rfl
variable (held : Held) (K : Value → Heap → Held → Prop) (v : Value)
theorem d_loadK (t : TypeId) (a : Value) : loadD (some v) t a h held K = K v h ((t, a, v) :: held) := rfl
theorem d_load (t : TypeId) (a : Operand) : opD P (.load t a) e h held K = loadD (loadV P t (evO e a) h) t (evO e a) h held K := rfl
theorem d_move (x : Operand) : opD P (.move x) e h held K = K (evO e x) h held := rfl
theorem d_assign (x : Operand) : opD P (.assign x) e h held K = K (evO e x) h held := rfl
theorem d_pick (c a b : Operand) : opD P (.pick c a b) e h held K = opV P (.pick c a b) e h (HK P (.pick c a b) held K) := rfl
theorem d_bin (op : BinOp) (t t2 : TypeId) (x y : Operand) : opD P (.binOp op t x y t2) e h held K = opV P (.binOp op t x y t2) e h (HK P (.binOp op t x y t2) held K) := rfl
theorem d_un (op : UnOp) (t : TypeId) (x : Operand) : opD P (.unOp op t x) e h held K = opV P (.unOp op t x) e h (HK P (.unOp op t x) held K) := rfl
theorem d_field (t : TypeId) (x : Operand) (f : Nat) : opD P (.field t x f) e h held K = opV P (.field t x f) e h (HK P (.field t x f) held K) := rfl
theorem d_fieldAddr (t : TypeId) (x : Operand) (f : Nat) : opD P (.fieldAddr t x f) e h held K = opV P (.fieldAddr t x f) e h (HK P (.fieldAddr t x f) held K) := rfl
theorem d_index (t : TypeId) (x i : Operand) : opD P (.index t x i) e h held K = opV P (.index t x i) e h (HK P (.index t x i) held K) := rfl
theorem d_indexAddr (t : TypeId) (x i : Operand) : opD P (.indexAddr t x i) e h held K = opV P (.indexAddr t x i) e h (HK P (.indexAddr t x i) held K) := rfl
theorem d_extract (x : Operand) (i : Nat) : opD P (.extract x i) e h held K = opV P (.extract x i) e h (HK P (.extract x i) held K) := rfl
theorem d_slice (t : TypeId) (x : Operand) (lo hi mx : Option Operand) : opD P (.slice t x lo hi mx) e h held K = opV P (.slice t x lo hi mx) e h (HK P (.slice t x lo hi mx) held K) := rfl
theorem d_nilCheck (x : Operand) : opD P (.nilCheck x) e h held K = opV P (.nilCheck x) e h (HK P (.nilCheck x) held K) := rfl
theorem d_build (t : TypeId) (l : Array (Nat × Operand)) : opD P (.build t l) e h held K = opV P (.build t l) e h (HK P (.build t l) held K) := rfl
theorem d_convert (s t : TypeId) (x : Operand) : opD P (.convert s t x) e h held K = opV P (.convert s t x) e h (HK P (.convert s t x) held K) := rfl
theorem d_call (c : Call) : opD P (.call c) e h held K = opV P (.call c) e h (HK P (.call c) held K) := rfl
theorem d_alloc (t : TypeId) : opD P (.alloc t) e h held K = opV P (.alloc t) e h (HK P (.alloc t) held K) := rfl
theorem d_box (t : TypeId) (x : Operand) : opD P (.box t x) e h held K = opV P (.box t x) e h (HK P (.box t x) held K) := rfl
theorem d_store (t : TypeId) (a x : Operand) : opD P (.store t a x) e h held K = opV P (.store t a x) e h (HK P (.store t a x) held K) := rfl
theorem d_buildSlice (t n : TypeId) (l : Array (Nat × Operand)) : opD P (.buildSlice t n l) e h held K = opV P (.buildSlice t n l) e h (HK P (.buildSlice t n l) held K) := rfl
theorem d_makeSlice (t : TypeId) (l c : Operand) : opD P (.makeSlice t l c) e h held K = opV P (.makeSlice t l c) e h (HK P (.makeSlice t l c) held K) := rfl
theorem h_pick (c a b : Operand) : HK P (.pick c a b) held K v h = K v h held := rfl
theorem h_bin (op : BinOp) (t t2 : TypeId) (x y : Operand) : HK P (.binOp op t x y t2) held K v h = K v h held := rfl
theorem h_un (op : UnOp) (t : TypeId) (x : Operand) : HK P (.unOp op t x) held K v h = K v h held := rfl
theorem h_field (t : TypeId) (x : Operand) (f : Nat) : HK P (.field t x f) held K v h = K v h held := rfl
theorem h_fieldAddr (t : TypeId) (x : Operand) (f : Nat) : HK P (.fieldAddr t x f) held K v h = K v h held := rfl
theorem h_index (t : TypeId) (x i : Operand) : HK P (.index t x i) held K v h = K v h held := rfl
theorem h_indexAddr (t : TypeId) (x i : Operand) : HK P (.indexAddr t x i) held K v h = K v h held := rfl
theorem h_extract (x : Operand) (i : Nat) : HK P (.extract x i) held K v h = K v h held := rfl
theorem h_slice (t : TypeId) (x : Operand) (lo hi mx : Option Operand) : HK P (.slice t x lo hi mx) held K v h = K v h held := rfl
theorem h_nilCheck (x : Operand) : HK P (.nilCheck x) held K v h = K v h held := rfl
theorem h_build (t : TypeId) (l : Array (Nat × Operand)) : HK P (.build t l) held K v h = K v h held := rfl
theorem h_len (l : Array Operand) (ts : Array TypeId) : HK P (.call ⟨.builtin .len, l, ts⟩) held K v h = K v h held := rfl
theorem h_max (l : Array Operand) (ts : Array TypeId) : HK P (.call ⟨.builtin .max, l, ts⟩) held K v h = K v h held := rfl
theorem h_min (l : Array Operand) (ts : Array TypeId) : HK P (.call ⟨.builtin .min, l, ts⟩) held K v h = K v h held := rfl
theorem h_call (f : Operand) (l : Array Operand) (ts : Array TypeId) : HK P (.call ⟨.value f, l, ts⟩) held K v h = (heldOk P held h ∧ K v h held) := rfl
theorem h_append (l : Array Operand) (ts : Array TypeId) : HK P (.call ⟨.builtin .append, l, ts⟩) held K v h = (heldOk P held h ∧ K v h held) := rfl
theorem h_alloc (t : TypeId) : HK P (.alloc t) held K v h = (heldOk P held h ∧ K v h held) := rfl
theorem h_box (t : TypeId) (x : Operand) : HK P (.box t x) held K v h = (heldOk P held h ∧ K v h held) := rfl
theorem h_store (t : TypeId) (a x : Operand) : HK P (.store t a x) held K v h = (heldOk P held h ∧ K v h held) := rfl
theorem h_buildSlice (t n : TypeId) (l : Array (Nat × Operand)) : HK P (.buildSlice t n l) held K v h = (heldOk P held h ∧ K v h held) := rfl
theorem h_makeSlice (t : TypeId) (l c : Operand) : HK P (.makeSlice t l c) held K v h = (heldOk P held h ∧ K v h held) := rfl
theorem h_convert (s t : TypeId) (x : Operand) : HK P (.convert s t x) held K v h = if (tInt P t).isNone = true then heldOk P held h ∧ K v h held else K v h held := rfl
end
theorem held_nil (P : Program) (h : Heap) : heldOk P [] h = True := by simp [heldOk]
theorem held_cons (P : Program) (h : Heap) (t : TypeId) (a v : Value) (l : Held) : heldOk P ((t, a, v) :: l) h = (loadV P t a h = some v ∧ heldOk P l h) := by simp [heldOk]
/-- As the list has it. -/
theorem draw_id {P : Program} [Laid P] {l : List Oper} {e : Env} {h : Heap} {K : Env → Heap → Prop} (hok : drawOk P l.toArray (List.range l.length) = true) (hd : opsD P l.toArray l e h [] K) : drawK P l e h K := by
  refine .inl ⟨_, hok, ?_⟩
  have : (List.range l.length).filterMap (l.toArray[·]?) = l := by
    have h2 : ∀ (m : List Oper) (k : Nat), k + m.length = l.length → l.drop k = m → (List.range' k m.length).filterMap (l.toArray[·]?) = m := by
      intro m
      induction m with
      | nil => intros; rfl
      | cons x m ih =>
        intro k hk hd
        rw [List.length_cons, List.range'_succ, List.filterMap_cons]
        have hx : l[k]? = some x := by rw [← List.head?_drop, hd]; rfl
        rw [List.getElem?_toArray, hx]
        simp only []
        rw [ih (k + 1) (by simp at hk; omega) (by rw [← List.drop_drop, hd]; rfl)]
    have := h2 l 0 (by simp) (by simp)
    rwa [← List.range_eq_range'] at this
  rw [this]; exact hd

/-- Steps in a region that draws. -/
def VD := And.intro @s_draw (And.intro @d_nil (And.intro @d_cons (And.intro @d_guard (And.intro @d_guard_tt (And.intro @d_guard_ff (And.intro @d_guard_tf (And.intro @d_guard_ft (And.intro @d_guard_skip (And.intro @d_K (And.intro @d_loadK (And.intro @d_load (And.intro @d_move (And.intro @d_assign (And.intro @d_pick (And.intro @d_bin (And.intro @d_un (And.intro @d_field (And.intro @d_fieldAddr (And.intro @d_index (And.intro @d_indexAddr (And.intro @d_extract (And.intro @d_slice (And.intro @d_nilCheck (And.intro @d_build (And.intro @d_convert (And.intro @d_call (And.intro @d_alloc (And.intro @d_box (And.intro @d_store (And.intro @d_buildSlice (And.intro @d_makeSlice (And.intro @h_pick (And.intro @h_bin (And.intro @h_un (And.intro @h_field (And.intro @h_fieldAddr (And.intro @h_index (And.intro @h_indexAddr (And.intro @h_extract (And.intro @h_slice (And.intro @h_nilCheck (And.intro @h_build (And.intro @h_len (And.intro @h_max (And.intro @h_min (And.intro @h_call (And.intro @h_append (And.intro @h_alloc (And.intro @h_box (And.intro @h_store (And.intro @h_buildSlice (And.intro @h_makeSlice (And.intro @h_convert (And.intro @held_nil (@held_cons)))))))))))))))))))))))))))))))))))))))))))))))))))))))

/-- All steps. -/
def VW := And.intro VS (And.intro VD (And.intro @l_load (And.intro @l_fieldAddr (And.intro @nat_toNat (And.intro @i_lit0 (And.intro @decT (And.intro @decF (And.intro @notT (And.intro @notF (And.intro @tf (And.intro @ft (And.intro @Nat.add_zero (And.intro @Nat.zero_add (And.intro @Nat.mul_one (And.intro @true_and (And.intro @and_true (And.intro @Bool.not_not (And.intro @Bool.true_and (And.intro @Bool.and_true (And.intro @st_0 (And.intro @st_1 (And.intro @st_2 (And.intro @st_3 (And.intro @st_4 (And.intro @st_5 (And.intro @st_6 (@st_7)))))))))))))))))))))))))))

end Go.V
end

section
/- The layer V, part 18: rows that grow. -/
namespace Go.V
open Go Go.RowKit

/-- Only the blocks of S have been changed. -/
structure Chg (S : List Nat) (h h' : Heap) : Prop where
  le : h.length ≤ h'.length
  eq : ∀ b, b < h.length → b ∉ S → getB h' b = getB h b
theorem Chg.ext {S : List Nat} {a h h' : Heap} (c : Chg S h h') (e : Ext a h) (hs : ∀ b ∈ S, a.length ≤ b) : Ext a h' :=
  ⟨Nat.le_trans e.le c.le, fun b hb => (c.eq b (Nat.lt_of_lt_of_le hb e.le) fun hm => by have := hs b hm; omega).trans (e.eq b hb)⟩
theorem Chg.trans {S T : List Nat} {a b c : Heap} (h1 : Chg S a b) (h2 : Chg T b c) (ht : ∀ x ∈ T, x ∈ S ∨ a.length ≤ x) : Chg S a c :=
  ⟨Nat.le_trans h1.le h2.le, fun x hx hs => (h2.eq x (Nat.lt_of_lt_of_le hx h1.le) fun hm => by rcases ht x hm with h | h; exact hs h; omega).trans (h1.eq x hx hs)⟩
theorem Ext.chg {S : List Nat} {h h' : Heap} (e : Ext h h') : Chg S h h' := ⟨e.le, fun b hb _ => e.eq b hb⟩

/-- A row whose block is this function's own: it may be written and appended to. -/
structure Own {α : Type} [Rep α] (el : TypeId) (h : Heap) (l : List α) (v : Value) (fp : List Nat) : Prop where
  row : rowRep h l v fp
  own : (v = .slice none 0 0 ∧ fp = []) ∨ ∃ k, v ≠ .slice none 0 0 ∧ getB h (rowB v) = some k ∧ k.ro = false ∧ k.ty = el ∧ rowO v + rowC v * Rep.sz α = k.cells.length ∧ rowB v ∈ fp
  nodup : fp.Nodup

section
variable {α : Type} [Rep α] {el : TypeId} {h h' : Heap} {l : List α} {v : Value} {fp : List Nat}
theorem Own.frame (o : Own el h l v fp) (hf : ∀ b ∈ fp, getB h' b = getB h b) : Own el h' l v fp := by
  refine ⟨o.row.frame hf, ?_, o.nodup⟩
  rcases o.own with h1 | ⟨k, h0, h1, h2, h3, h4, h5⟩
  · exact .inl h1
  · exact .inr ⟨k, h0, (hf _ h5).trans h1, h2, h3, h4, h5⟩
theorem Own.nil (el : TypeId) (h : Heap) : Own (α := α) el h [] (.slice none 0 0) [] :=
  ⟨⟨.inl ⟨rfl, rfl⟩, by simp, .inl ⟨rfl, rfl⟩⟩, .inl ⟨rfl, rfl⟩, List.nodup_nil⟩
/-- What an own row's shape is. -/
theorem Own.cases (o : Own el h l v fp) : (v = .slice none 0 0 ∧ l = [] ∧ fp = []) ∨
    ∃ (b off cap : Nat) (k : Blk) (fps : List (List Nat)), v = .slice (some ⟨b, off, none⟩) l.length cap ∧ l.length ≤ cap ∧ getB h b = some k ∧ k.ro = false ∧ k.ty = el ∧ off + cap * Rep.sz α = k.cells.length ∧ fp = b :: fps.flatten ∧ Cells h l ((k.cells.drop off).take (l.length * Rep.sz α)) fps := by
  obtain ⟨⟨hr, hn, h3⟩, ho, hd⟩ := o
  rcases ho with ⟨rfl, rfl⟩ | ⟨k, h0, h1, h2, h3', h4, h5⟩
  · rcases hr with ⟨_, h1⟩ | ⟨b, off, cap, h1, _⟩
    · exact .inl ⟨rfl, List.length_eq_zero_iff.1 h1, rfl⟩
    · simp at h1
  · rcases hr with ⟨hr, _⟩ | ⟨b, off, cap, rfl, hle⟩
    · exact (h0 hr).elim
    · rcases h3 with ⟨_, rfl⟩ | ⟨cs, fps, hne, hc, rfl, hcs⟩
      · simp at h5
      · obtain ⟨k', hk', hlen, rfl⟩ := cellsAt_getB hc
        simp only [rowB, rowO, rowC] at h1 h4 hk' hcs ⊢
        obtain rfl : k = k' := by rw [h1] at hk'; simpa using hk'
        exact .inr ⟨b, off, cap, k, fps, rfl, hle, h1, h2, h3', h4, rfl, hcs⟩
theorem Own.mk' {b off cap : Nat} {k : Blk} {fps : List (List Nat)} (hle : l.length ≤ cap) (hn : l.length ≤ 9223372036854775807) (h1 : getB h b = some k) (h2 : k.ro = false) (h3 : k.ty = el) (h4 : off + cap * Rep.sz α = k.cells.length)
    (hc : Cells h l ((k.cells.drop off).take (l.length * Rep.sz α)) fps) (hd : (b :: fps.flatten).Nodup) : Own el h l (.slice (some ⟨b, off, none⟩) l.length cap) (b :: fps.flatten) := by
  have hm : l.length * Rep.sz α ≤ cap * Rep.sz α := Nat.mul_le_mul_right _ hle
  refine ⟨⟨.inr ⟨b, off, cap, rfl, hle⟩, hn, .inr ⟨_, fps, by simp, cellsAt_of h1 (by simp only [rowO]; omega), rfl, hc⟩⟩, .inr ⟨k, by simp, h1, h2, h3, h4, by simp [rowB]⟩, hd⟩
end

theorem getB_kill {h : Heap} {b c : Nat} (hc : c ≠ b) : getB (killB h b) c = getB h c := by
  unfold killB
  split
  · rename_i k hk
    split
    · rw [getB_set (getB_lt hk), if_neg hc]
    · rfl
  · rfl
theorem kill_length (h : Heap) (b : Nat) : (killB h b).length = h.length := by
  unfold killB
  split
  · split <;> simp
  · rfl
theorem rowV_cells {h : Heap} {size n b off : Nat} {len cap : Nat} {cs : List Value} (hc : cellsAt h b off (n * size) = some cs) : rowV h size n (.slice (some ⟨b, off, none⟩) len cap) = some cs := by
  simp only [rowV]
  by_cases h0 : n = 0
  · subst h0
    have := cellsAt_len hc
    rw [if_pos rfl, List.eq_nil_of_length_eq_zero (by omega : cs.length = 0)]
  · rw [if_neg h0]; exact hc

end Go.V
end

section
/- The layer V, part 19: rules for rows: append, cut, make, write. -/
namespace Go.V
open Go Go.RowKit

/-! ### cutting -/
def cutV (v : Value) (sz lo m : Nat) : Value := match v with
  | .slice A _ cap => .slice (A.map fun a => ⟨a.block, a.off + lo * sz, none⟩) (m - lo) (cap - lo)
  | v => v
theorem IsRow.cap {v : Value} {n : Nat} (hr : IsRow v n) : n ≤ rowC v := by
  rcases hr with ⟨rfl, rfl⟩ | ⟨b, off, cap, rfl, h⟩
  · exact Nat.zero_le _
  · exact h
theorem IsRow.sl {v : Value} {n : Nat} (hr : IsRow v n) (P : Program) (t : TypeId) (e : Env) (lo hi : Option Operand) :
    sliceV P t e v lo hi = (tElem P t).bind fun el => (tk P el).bind fun k => (hiV e hi (rowC v) n).bind fun m => (loV e lo m).bind fun l => if m ≤ rowC v then some (cutV v k.size l m) else none := by
  rcases hr with ⟨rfl, rfl⟩ | ⟨b, off, cap, rfl, h⟩ <;> rfl
theorem hi_none (e : Env) (c n : Nat) : hiV e none c n = some n := rfl
theorem hi_some (e : Env) (x : Operand) (c n : Nat) : hiV e (some x) c n = boundV (evO e x) c := rfl
theorem lo_none (e : Env) (n : Nat) : loV e none n = some 0 := rfl
theorem lo_some (e : Env) (x : Operand) (n : Nat) : loV e (some x) n = boundV (evO e x) n := rfl
theorem bound_in (k : IntKind) (i : Int) (n : Nat) (h : 0 ≤ i ∧ i ≤ n) : boundV (.int k i) n = some i.toNat := if_pos h
theorem if_le (m c : Nat) (h : m ≤ c) (a b : Option Value) : (if m ≤ c then a else b) = a := if_pos h
theorem s_sl_str (P : Program) (t : TypeId) (e : Env) (s : ByteArray) (lo hi : Option Operand) : sliceV P t e (.string s) lo hi = if (tk P t).map (·.kind) = some 3 then (hiV e hi s.size s.size).bind fun m => (loV e lo m).map fun l => .string (s.extract l m) else none := rfl
theorem cut_isRow {v : Value} {n lo m sz : Nat} (hr : IsRow v n) (h1 : lo ≤ m) (h2 : m ≤ rowC v) : IsRow (cutV v sz lo m) (m - lo) := by
  rcases hr with ⟨rfl, rfl⟩ | ⟨b, off, cap, rfl, h⟩
  · simp only [rowC] at h2
    obtain rfl : m = 0 := by omega
    exact .inl ⟨by simp [cutV], by omega⟩
  · simp only [rowC] at h2
    exact .inr ⟨b, off + lo * sz, cap - lo, rfl, by omega⟩
theorem cut_ne {v : Value} {n lo m sz : Nat} (hr : IsRow v n) (hv : v ≠ .slice none 0 0) : cutV v sz lo m ≠ .slice none 0 0 ∧ rowB (cutV v sz lo m) = rowB v ∧ rowO (cutV v sz lo m) = rowO v + lo * sz ∧ rowC (cutV v sz lo m) = rowC v - lo := by
  rcases hr with ⟨h1, _⟩ | ⟨b, off, cap, rfl, h⟩
  · exact (hv h1).elim
  · simp [cutV, rowB, rowO, rowC]

theorem sub_flatten {l m : List (List Nat)} (h : l.Sublist m) : l.flatten.Sublist m.flatten := by
  induction h with
  | slnil => exact .slnil
  | cons a _ ih => rw [List.flatten_cons]; exact ih.trans (List.sublist_append_right _ _)
  | cons_cons a _ ih => rw [List.flatten_cons, List.flatten_cons]; exact List.Sublist.append (.refl _) ih

section
variable {α : Type} [Rep α] {el : TypeId} {h h' : Heap} {l : List α} {v : Value} {fp : List Nat}
theorem rowRep.cut (hr : rowRep h l v fp) {lo m : Nat} (h1 : lo ≤ m) (h2 : m ≤ l.length) : ∃ fp', rowRep h ((l.take m).drop lo) (cutV v (Rep.sz α) lo m) fp' ∧ (∀ b ∈ fp', b ∈ fp) ∧ (fp.Nodup → fp'.Nodup) := by
  obtain ⟨g1, g2, g3⟩ := hr
  have hlen : ((l.take m).drop lo).length = m - lo := by rw [List.length_drop, List.length_take]; omega
  have hi : IsRow (cutV v (Rep.sz α) lo m) ((l.take m).drop lo).length := by rw [hlen]; exact cut_isRow g1 h1 (Nat.le_trans h2 g1.cap)
  rcases g3 with ⟨rfl, rfl⟩ | ⟨cs, fps, hne, hc, rfl, hcl⟩
  · exact ⟨[], ⟨hi, by omega, .inl ⟨by simp, rfl⟩⟩, by simp, fun h => h⟩
  · obtain ⟨e1, e2, e3, e4⟩ := cut_ne (lo := lo) (m := m) (sz := Rep.sz α) g1 hne
    obtain ⟨k, hk, hle, rfl⟩ := cellsAt_getB hc
    have hm1 : m * Rep.sz α ≤ l.length * Rep.sz α := Nat.mul_le_mul_right _ h2
    have hm2 : lo * Rep.sz α ≤ m * Rep.sz α := Nat.mul_le_mul_right _ h1
    have hm3 : (m - lo) * Rep.sz α = m * Rep.sz α - lo * Rep.sz α := Nat.sub_mul _ _ _
    have hd := (hcl.take h2).drop (m := lo) (by rw [List.length_take]; omega)
    refine ⟨rowB v :: ((fps.take m).drop lo).flatten, ⟨hi, by omega, .inr ⟨_, _, e1, ?_, ?_, hd⟩⟩, ?_, ?_⟩
    · rw [e2, e3, hlen, cellsAt_of hk (by omega), List.take_take, Nat.min_eq_left hm1, List.drop_take, List.drop_drop, hm3]
    · rw [e2]
    · intro b hb
      rcases List.mem_cons.1 hb with rfl | hb
      · simp
      · obtain ⟨f, hf, hb⟩ := List.mem_flatten.1 hb
        exact List.mem_cons_of_mem _ (List.mem_flatten.2 ⟨f, List.mem_of_mem_take (List.mem_of_mem_drop hf), hb⟩)
    · intro hnd
      refine List.Nodup.sublist ?_ hnd
      refine List.Sublist.cons_cons _ ?_
      exact sub_flatten ((List.drop_sublist _ _).trans (List.take_sublist _ _))
theorem Row.cut (hr : Row h l v) {lo m : Nat} (h1 : lo ≤ m) (h2 : m ≤ l.length) : Row h ((l.take m).drop lo) (cutV v (Rep.sz α) lo m) := by
  obtain ⟨fp, hr⟩ := hr
  obtain ⟨fp', h3, _⟩ := hr.cut h1 h2
  exact ⟨fp', h3⟩
theorem Own.toRow (o : Own el h l v fp) : Row h l v := ⟨fp, o.row⟩
theorem Own.isRow (o : Own el h l v fp) : IsRow v l.length := o.row.1
theorem Own.cut (o : Own el h l v fp) {lo m : Nat} (h1 : lo ≤ m) (h2 : m ≤ l.length) : ∃ fp', Own el h ((l.take m).drop lo) (cutV v (Rep.sz α) lo m) fp' ∧ (∀ b ∈ fp', b ∈ fp) := by
  rcases o.cases with ⟨rfl, rfl, rfl⟩ | ⟨b, off, cap, kb, fps, rfl, hle, k1, k2, k3, k4, rfl, hcl⟩
  · simp at h2; subst h2
    obtain rfl : lo = 0 := by omega
    exact ⟨[], by simpa [cutV] using Own.nil el h, by simp⟩
  · have hlen : ((l.take m).drop lo).length = m - lo := by rw [List.length_drop, List.length_take]; omega
    have hm1 : m * Rep.sz α ≤ l.length * Rep.sz α := Nat.mul_le_mul_right _ h2
    have hm2 : lo * Rep.sz α ≤ m * Rep.sz α := Nat.mul_le_mul_right _ h1
    have hm3 : (m - lo) * Rep.sz α = m * Rep.sz α - lo * Rep.sz α := Nat.sub_mul _ _ _
    have hm4 : l.length * Rep.sz α ≤ cap * Rep.sz α := Nat.mul_le_mul_right _ hle
    have hd := (hcl.take h2).drop (m := lo) (by rw [List.length_take]; omega)
    have hnd : (b :: ((fps.take m).drop lo).flatten).Nodup := o.nodup.sublist (List.Sublist.cons_cons _ (sub_flatten ((List.drop_sublist _ _).trans (List.take_sublist _ _))))
    have := Own.mk' (α := α) (el := el) (h := h) (l := (l.take m).drop lo) (b := b) (off := off + lo * Rep.sz α) (cap := cap - lo) (k := kb) (fps := (fps.take m).drop lo) (by rw [hlen]; omega)
      (by rw [hlen]; have := o.row.2.1; omega) k1 k2 k3 (by rw [Nat.sub_mul]; omega) (by
        rw [hlen, hm3, ← List.drop_drop, ← List.drop_take]
        rw [List.take_take, Nat.min_eq_left hm1] at hd
        exact hd) hnd
    rw [hlen] at this
    refine ⟨_, this, fun c hc => ?_⟩
    rcases List.mem_cons.1 hc with rfl | hc
    · simp
    · exact List.mem_cons_of_mem _ ((sub_flatten ((List.drop_sublist _ _).trans (List.take_sublist _ _))).subset hc)
theorem Own.live (o : Own el h l v fp) : ∀ b ∈ fp, b < h.length := o.row.live
end

/-! ### appending what has just been built -/
/-! ### making and writing -/
theorem cells_rep {α : Type} [Rep α] {h : Heap} {x : α} {c : List Value} (hx : Rep.rep h x c []) (n : Nat) : Cells h (List.replicate n x) (rep n c) (List.replicate n []) := by
  induction n with
  | zero => exact ⟨rfl, rfl⟩
  | succ n ih => exact ⟨c, [], rep n c, List.replicate n [], rfl, rfl, hx, ih⟩
theorem flat_nils (n : Nat) : (List.replicate n ([] : List Nat)).flatten = [] := by induction n with
  | zero => rfl
  | succ n ih => simp [List.replicate_succ]

theorem make_row {α : Type} [Rep α] {P : Program} {t el : TypeId} {k : TK} {h : Heap} {kk kk' : IntKind} {n : Nat} (x : α) {K : Value → Heap → Prop}
    (ht : tElem P t = some el) (hk : tk P el = some k) (hx : ∀ h, Rep.rep h x k.zero []) (hb0 : 0 < k.bytes) (hb : n * k.bytes ≤ 140737488355328)
    (next : ∀ v h', Ext h h' → Own el h' (List.replicate n x) v [h.length] → rowC v = n → v ≠ .slice none 0 0 → K v h') :
    optH (makeSliceV P t (.int kk n) (.int kk' n) h) K := by
  have hle : n ≤ 140737488355328 := Nat.le_trans (Nat.le_mul_of_pos_right _ hb0) hb
  simp only [makeSliceV, ht, hk, Option.bind_some]
  have hh : (n : Int) * (k.bytes : Int) ≤ 140737488355328 := by rw [← Int.natCast_mul]; exact Int.ofNat_le.2 hb
  rw [if_pos ⟨by omega, by omega, hh⟩]
  have hz := Rep.len (hx h)
  have hl := V.rep_length n k.zero
  have := Own.mk' (α := α) (el := el) (h := h ++ [some ⟨rep n k.zero, el, false, true⟩]) (l := List.replicate n x) (b := h.length) (off := 0) (cap := n) (fps := List.replicate n []) (k := ⟨rep n k.zero, el, false, true⟩)
    (Nat.le_of_eq List.length_replicate) (by rw [List.length_replicate]; omega) getB_append_new rfl rfl (by rw [Nat.zero_add]; exact (hl.trans (by rw [hz])).symm) (by
      simp only [List.drop_zero, List.length_replicate]
      rw [List.take_of_length_le (by rw [hl, hz]; omega)]
      exact cells_rep (hx _) n) (by rw [flat_nils]; simp)
  exact next _ _ (Ext.one h _) (by simpa [flat_nils] using this) rfl (by simp)

/-- A whole element is written. -/
theorem own_set {α : Type} [Rep α] {el : TypeId} {h : Heap} {l : List α} {v : Value} {fp : List Nat} {cs : List Value} {f : List Nat} {i : Nat} {y : α}
    (ov : Own el h l v fp) (hi : i < l.length) (hy : Rep.rep h y cs f) (hd : ∀ b ∈ f, b ∉ fp) (hf : f.Nodup) :
    ∃ h' fp', writeB h (rowB v) (rowO v + i * Rep.sz α) cs = some h' ∧ Own el h' (l.set i y) v fp' ∧ Chg [rowB v] h h' ∧ h'.length = h.length ∧ (∀ b ∈ fp', b ∈ fp ∨ b ∈ f) := by
  rcases ov.cases with ⟨rfl, rfl, rfl⟩ | ⟨b, off, cap, kb, fps, rfl, hle, h1, h2, h3, h4, rfl, hcl⟩
  · simp at hi
  · obtain ⟨kc, kty, kro, kex⟩ := kb
    simp only at h2 h3 h4 hcl
    subst h2; subst h3
    simp only [rowB, rowO]
    have hmul : l.length * Rep.sz α ≤ cap * Rep.sz α := Nat.mul_le_mul_right _ hle
    have him : i * Rep.sz α + Rep.sz α ≤ l.length * Rep.sz α := by rw [← Nat.succ_mul]; exact Nat.mul_le_mul_right _ hi
    have hyl := Rep.len hy
    have hwl : off + i * Rep.sz α + cs.length ≤ kc.length := by omega
    have hg : getB (h.set b (some ⟨putCells kc (off + i * Rep.sz α) cs, kty, false, kex⟩)) b = some ⟨putCells kc (off + i * Rep.sz α) cs, kty, false, kex⟩ := by rw [getB_set (getB_lt h1), if_pos rfl]
    have hframe : ∀ c, c ≠ b → getB (h.set b (some ⟨putCells kc (off + i * Rep.sz α) cs, kty, false, kex⟩)) c = getB h c := fun c hc => by rw [getB_set (getB_lt h1), if_neg hc]
    have hnd := List.nodup_cons.1 ov.nodup
    have hfl : ∀ c ∈ fps.flatten, c ≠ b := fun c hc e => by subst e; exact hnd.1 hc
    -- the row in three parts
    obtain ⟨x, hx⟩ : ∃ x, l[i]? = some x := ⟨_, List.getElem?_eq_getElem hi⟩
    have hl3 : l = l.take i ++ [x] ++ l.drop (i + 1) := by
      have h1 : l.drop i = x :: l.drop (i + 1) := by
        obtain ⟨_, rfl⟩ := List.getElem?_eq_some_iff.1 hx
        exact List.drop_eq_getElem_cons _
      conv => lhs; rw [← List.take_append_drop i l, h1]
      simp
    have hset : l.set i y = l.take i ++ [y] ++ l.drop (i + 1) := by
      rw [List.set_eq_take_append_cons_drop, if_pos hi]; simp
    have hc1 := hcl.take (m := i) (by omega)
    have hc3 := hcl.drop (m := i + 1) (by omega)
    have hfp : fps.length = l.length := hcl.length.2
    have hcc := ((hc1.frame (h' := h.set b (some ⟨putCells kc (off + i * Rep.sz α) cs, kty, false, kex⟩)) fun c hc => hframe c (hfl c (by
        obtain ⟨g, hg, hc⟩ := List.mem_flatten.1 hc
        exact List.mem_flatten.2 ⟨g, List.mem_of_mem_take hg, hc⟩))).append (Cells.one (Rep.frame hy fun c hc => hframe c fun e => hd c hc (by rw [e]; simp)))).append
      (hc3.frame fun c hc => hframe c (hfl c (by
        obtain ⟨g, hg, hc⟩ := List.mem_flatten.1 hc
        exact List.mem_flatten.2 ⟨g, List.mem_of_mem_drop hg, hc⟩)))
    rw [← hset] at hcc
    refine ⟨_, b :: (fps.take i ++ [f] ++ fps.drop (i + 1)).flatten, by simp only [writeB, h1, Bool.not_false, Bool.true_and, decide_eq_true hwl, if_true], ?_, ⟨by simp, fun c _ hc => hframe c (by simpa using hc)⟩, by simp, ?_⟩
    · have hll : (l.set i y).length = l.length := by simp
      have := Own.mk' (α := α) (el := kty) (l := l.set i y) (b := b) (off := off) (cap := cap) (k := ⟨putCells kc (off + i * Rep.sz α) cs, kty, false, kex⟩) (fps := fps.take i ++ [f] ++ fps.drop (i + 1)) (h := h.set b (some ⟨putCells kc (off + i * Rep.sz α) cs, kty, false, kex⟩))
        (by rw [hll]; exact hle) (by rw [hll]; exact ov.row.2.1) hg rfl rfl (by simp only [putCells_length hwl]; exact h4) ?_ ?_
      · rw [hll] at this; exact this
      · have e : (List.drop off (putCells kc (off + i * Rep.sz α) cs)).take ((l.set i y).length * Rep.sz α) =
            List.take (i * Rep.sz α) (List.take (l.length * Rep.sz α) (List.drop off kc)) ++ cs ++ List.drop ((i + 1) * Rep.sz α) (List.take (l.length * Rep.sz α) (List.drop off kc)) := by
          have hs1 : (i + 1) * Rep.sz α = i * Rep.sz α + Rep.sz α := Nat.succ_mul _ _
          have la : (List.take (i * Rep.sz α) (List.take (l.length * Rep.sz α) (List.drop off kc))).length = i * Rep.sz α := by simp only [List.length_take, List.length_drop]; omega
          apply List.ext_getElem?
          intro j
          rw [hll, List.getElem?_take, List.append_assoc]
          by_cases hj : j < l.length * Rep.sz α
          · rw [if_pos hj, List.getElem?_drop]
            by_cases hj1 : j < i * Rep.sz α
            · rw [putCells_out hwl (.inl (by omega)), List.getElem?_append_left (by omega), List.getElem?_take, if_pos hj1, List.getElem?_take, if_pos hj, List.getElem?_drop]
            · rw [List.getElem?_append_right (by omega), la]
              by_cases hj2 : j < i * Rep.sz α + Rep.sz α
              · rw [putCells_in hwl (by omega) (by omega), List.getElem?_append_left (by omega)]
                congr 1; omega
              · rw [putCells_out hwl (.inr (by omega)), List.getElem?_append_right (by omega), List.getElem?_drop, List.getElem?_take, if_pos (by omega), List.getElem?_drop]
                congr 1; omega
          · rw [if_neg hj]
            symm
            rw [List.getElem?_eq_none_iff]
            simp only [List.length_append, List.length_take, List.length_drop]; omega
        rw [e]; exact hcc
      · refine List.nodup_cons.2 ⟨fun hm => ?_, ?_⟩
        · simp only [List.flatten_append, List.mem_append, List.flatten_cons, List.flatten_nil, List.append_nil] at hm
          rcases hm with (hm | hm) | hm
          · exact hnd.1 ((sub_flatten (List.take_sublist _ _)).subset hm)
          · exact hd b hm (by simp)
          · exact hnd.1 ((sub_flatten (List.drop_sublist _ _)).subset hm)
        · have hsplit : (fps.take i).flatten ++ (fps.drop i).flatten = fps.flatten := by rw [← List.flatten_append, List.take_append_drop]
          have hn2 := hnd.2
          rw [← hsplit] at hn2
          have hn3 := List.nodup_append.1 hn2
          have hsub : (fps.drop (i + 1)).flatten.Sublist (fps.drop i).flatten := by
            refine sub_flatten ?_
            rw [← List.drop_drop]; exact List.drop_sublist _ _
          simp only [List.flatten_append, List.flatten_cons, List.flatten_nil, List.append_nil]
          refine List.nodup_append.2 ⟨List.nodup_append.2 ⟨hn3.1, hf, fun a ha c hc e => ?_⟩, hn3.2.1.sublist hsub, fun a ha c hc e => ?_⟩
          · subst e; exact hd a hc (List.mem_cons_of_mem _ ((sub_flatten (List.take_sublist _ _)).subset ha))
          · subst e
            rcases List.mem_append.1 ha with ha | ha
            · exact hn3.2.2 a ha a (hsub.subset hc) rfl
            · exact hd a ha (List.mem_cons_of_mem _ ((sub_flatten (List.drop_sublist _ _)).subset hc))
    · intro c hc
      simp only [List.mem_cons, List.flatten_append, List.mem_append, List.flatten_cons, List.flatten_nil, List.append_nil] at hc
      rcases hc with rfl | (hc | hc) | hc
      · exact .inl (by simp)
      · exact .inl (List.mem_cons_of_mem _ ((sub_flatten (List.take_sublist _ _)).subset hc))
      · exact .inr hc
      · exact .inl (List.mem_cons_of_mem _ ((sub_flatten (List.drop_sublist _ _)).subset hc))
end Go.V
end

section
/- The layer V, part 20: arguments that came in, read. -/
namespace Go.V
open Go Go.RowKit

/-- What came in: blocks that nothing writes. -/
structure RO (W : World) (h : Heap) (ι : List Place) : Prop where
  len : ι.length = h.length
  blk : ∀ b k p, getB h b = some k → ι[b]? = some p → k.ro = true ∧ ∃ (arr : Array Value) (fz : Nat × Nat), W.heap[p.blk]? = some (.cells arr k.ty fz) ∧ (∀ i v, k.cells[i]? = some v → ∃ u, arr[p.base + i]? = some u ∧ FR ι v u)

theorem RO.nil (W : World) : RO W [] [] := ⟨rfl, fun b k p h => by simp [getB] at h⟩
theorem RO.rel {P : Program} [Laid P] {W : World} {h : Heap} {ι : List Place} (r : RO W h ι) (hg : ∀ w', Below W.heap.size W w' → Laid.G P w') : Rel P W.heap.size ι h W := by
  refine ⟨r.len, Nat.le_refl _, hg, fun b k p hb hp => ?_, fun b b' k k' p p' hb _ hp _ hk => ?_⟩
  · obtain ⟨h1, arr, fz, h2, h3⟩ := r.blk b k p hb hp
    refine ⟨arr, fz, h2, h3, fun _ => ?_, fun h => by rw [h1] at h; simp at h⟩
    exact (Array.getElem?_eq_some_iff.1 h2).1
  · have := (r.blk b k p hb hp).1
    rw [this] at hk; simp at hk

theorem ext_prefix {h h' : Heap} (hp : h <+: h') : Ext h h' := by
  obtain ⟨g, rfl⟩ := hp; exact .app h g

/-- These cells are read as an α. -/
def Opens (α : Type) [Rep α] (W : World) (cs : List Value) : Prop :=
  ∀ h ι, RO W h ι → ∃ (x : α) (h' : Heap) (ι' : List Place) (vcs : List Value), RO W h' ι' ∧ h <+: h' ∧ ι <+: ι' ∧ Here h' x vcs ∧ L2 (BR ι') vcs cs

theorem Opens.pair {α β : Type} [Rep α] [Rep β] {W : World} {c1 c2 : List Value} (h1 : Opens α W c1) (h2 : Opens β W c2) : Opens (α × β) W (c1 ++ c2) := by
  intro h ι r
  obtain ⟨x, ha, ιa, va, ra, pa, qa, ⟨fa, ea⟩, la⟩ := h1 h ι r
  obtain ⟨y, hb, ιb, vb, rb, pb, qb, ⟨fb, eb⟩, lb⟩ := h2 ha ιa ra
  refine ⟨(x, y), hb, ιb, va ++ vb, rb, pa.trans pb, qa.trans qb, ⟨fa ++ fb, va, vb, fa, fb, rfl, rfl, Rep.frame ea fun b hb' => (ext_prefix pb).eq b (Rep.live ea b hb'), eb⟩, ?_⟩
  exact (la.imp fun _ _ hr => BR.pre qb hr).append lb
theorem Opens.iso {α β : Type} [Rep α] (f : β → α) (g : α → β) (hg : ∀ a, f (g a) = a) {W : World} {cs : List Value} (h1 : Opens α W cs) : @Opens β (Rep.iso f) W cs := by
  intro h ι r
  obtain ⟨x, h', ι', vcs, r', p, q, ⟨fp, e⟩, l⟩ := h1 h ι r
  refine ⟨g x, h', ι', vcs, r', p, q, ⟨fp, ?_⟩, l⟩
  show Rep.rep h' (f (g x)) vcs fp
  rw [hg]; exact e

/-- The kinds of data that an argument is made of. -/
class ArgT (α : Type) [Rep α] where
  ty : Program → TypeId → Prop
  opens : ∀ {H : Type} {enc : TypeId × Value → H} {P : Program} {W : World} {fuel : Nat} {t : TypeId} {cs : List Value} {x : DataW H × List MemPlace}, ty P t → DataW.trod enc P W 0 (fun _ => true) true fuel t cs = some x → Opens α W cs

instance : ArgT Int where
  ty := fun P t => P.underlying t = some (.int .i64)
  opens := by
    intro H enc P W fuel t cs x ht h
    obtain ⟨n, rfl, _, hw⟩ := DataW.trod_int ht h
    intro h ι r
    refine ⟨n, h, ι, [.int .i64 n], r, List.prefix_rfl, List.prefix_rfl, ⟨[], rfl, rfl, ?_⟩, .cons (.int _ _) .nil⟩
    simp [Lit.wf, IntKind.min, IntKind.max, IntKind.signed, IntKind.bits] at hw
    unfold inI64; omega
instance : ArgT UInt8 where
  ty := fun P t => P.underlying t = some (.int .u8)
  opens := by
    intro H enc P W fuel t cs x ht h
    obtain ⟨n, rfl, _, hw⟩ := DataW.trod_int ht h
    intro h ι r
    simp [Lit.wf, IntKind.min, IntKind.max, IntKind.signed, IntKind.bits] at hw
    refine ⟨UInt8.ofNat n.toNat, h, ι, [.int .u8 n], r, List.prefix_rfl, List.prefix_rfl, ⟨[], ?_, rfl⟩, .cons (.int _ _) .nil⟩
    have : ((UInt8.ofNat n.toNat).toNat : Int) = n := by rw [UInt8.toNat_ofNat']; omega
    rw [this]
instance : ArgT Bool where
  ty := fun P t => P.underlying t = some .bool
  opens := by
    intro H enc P W fuel t cs x ht h
    obtain ⟨b, rfl, _⟩ := DataW.trod_bool ht h
    intro h ι r
    exact ⟨b, h, ι, [.bool b], r, List.prefix_rfl, List.prefix_rfl, ⟨[], rfl, rfl⟩, .cons (.bool _) .nil⟩
instance : ArgT ByteArray where
  ty := fun P t => P.underlying t = some .string
  opens := by
    intro H enc P W fuel t cs x ht h
    obtain ⟨s, rfl, _, hs⟩ := DataW.trod_string ht h
    intro h' ι r
    exact ⟨s, h', ι, [.string s], r, List.prefix_rfl, List.prefix_rfl, ⟨[], rfl, rfl, by unfold maxLen at hs; omega⟩, .cons (.string _) .nil⟩

/-- The elements of a row, one behind the other. -/
theorem opens_cells {α : Type} [Rep α] {W : World} {arr : List Value} (off : Nat) : ∀ n : Nat, (∀ i, i < n → Opens α W ((arr.drop (off + i * Rep.sz α)).take (Rep.sz α))) → off + n * Rep.sz α ≤ arr.length →
    ∀ h ι, RO W h ι → ∃ (l : List α) (h' : Heap) (ι' : List Place) (vcs : List Value) (fps : List (List Nat)), RO W h' ι' ∧ h <+: h' ∧ ι <+: ι' ∧ Cells h' l vcs fps ∧ l.length = n ∧ L2 (BR ι') vcs ((arr.drop off).take (n * Rep.sz α)) := by
  intro n
  induction n with
  | zero => intro _ _ h ι r; exact ⟨[], h, ι, [], [], r, List.prefix_rfl, List.prefix_rfl, ⟨rfl, rfl⟩, rfl, by simpa using L2.nil⟩
  | succ n ih =>
    intro ho hl h ι r
    have hm : (n + 1) * Rep.sz α = n * Rep.sz α + Rep.sz α := Nat.succ_mul _ _
    obtain ⟨l, h1, ι1, vcs, fps, r1, p1, q1, c1, e1, l1⟩ := ih (fun i hi => ho i (by omega)) (by omega) h ι r
    obtain ⟨x, h2, ι2, v2, r2, p2, q2, ⟨f2, c2⟩, l2⟩ := ho n (by omega) h1 ι1 r1
    refine ⟨l ++ [x], h2, ι2, vcs ++ v2, fps ++ [f2], r2, p1.trans p2, q1.trans q2, (c1.frame fun b hb => (ext_prefix p2).eq b (c1.live b hb)).append (Cells.one c2), by simp [e1], ?_⟩
    have := (l1.imp fun _ _ hr => BR.pre q2 hr).append l2
    have e : (arr.drop off).take ((n + 1) * Rep.sz α) = (arr.drop off).take (n * Rep.sz α) ++ (arr.drop (off + n * Rep.sz α)).take (Rep.sz α) := by
      rw [hm, List.take_add, List.drop_drop]
    rw [e]; exact this

theorem cell?_inv {w : World} {a : Addr} {v : Value} (h : w.cell? a = some v) : ∃ arr ty fz, w.heap[a.block]? = some (.cells arr ty fz) ∧ a.spot = none ∧ arr[a.off]? = some v := by
  unfold World.cell? at h
  split at h
  · rename_i c ty fz hc
    refine ⟨c, ty, fz, hc, ?_⟩
    cases hs : a.spot with
    | none => rw [hs] at h; exact ⟨rfl, by simpa using h⟩
    | some _ => rw [hs] at h; simp at h
  · simp at h
theorem cell?_of {w : World} {b off : Nat} {arr : Array Value} {ty : TypeId} {fz : Nat × Nat} (hb : w.heap[b]? = some (.cells arr ty fz)) : w.cell? ⟨b, off, none⟩ = arr[off]? := by
  unfold World.cell?; simp only [hb]; rfl

instance {α : Type} [Rep α] [ArgT α] : ArgT (List α) where
  ty := fun P t => ∃ e, P.underlying t = some (.slice e) ∧ P.cellsOf e = Rep.sz α ∧ 0 < Rep.sz α ∧ ArgT.ty α P e
  opens := by
    intro H enc P W fuel t cs x ⟨e, ht, hsz, hpos, hty⟩ hx
    rcases DataW.trod_slice ht hx with ⟨rfl, _⟩ | ⟨a, len, cap, elems, rest, n, _, rfl, _, hb, hl, hm, hlen, hel, hsp, _⟩
    · intro h ι r
      exact ⟨[], h, ι, [.slice none 0 0], r, List.prefix_rfl, List.prefix_rfl, ⟨[], _, rfl, .inl ⟨rfl, rfl⟩, by simp, .inl ⟨rfl, rfl⟩⟩, .cons .nils .nil⟩
    · -- what every element's cells are
      have hget : ∀ i, i < cap → ∃ cs', W.cells? 0 (a.add (i * Rep.sz α)) (Rep.sz α) = some cs' ∧ (i < len → Opens α W cs') := by
        intro i hi
        by_cases hil : i < len
        · have := hel i hil
          rw [List.getElem?_eq_getElem (by omega)] at this
          obtain ⟨cs', h1, h2⟩ := Option.bind_eq_some_iff.1 this
          rw [hsz] at h1
          exact ⟨cs', h1, fun _ => ArgT.opens hty h2⟩
        · have h0 := hsp rfl
          have := h0.2 (i - len) (by omega)
          rw [show len + (i - len) = i by omega, List.getElem?_eq_getElem (by omega)] at this
          obtain ⟨cs', h1, h2⟩ := Option.bind_eq_some_iff.1 this
          rw [hsz] at h1
          exact ⟨cs', h1, fun h => absurd h hil⟩
      intro h ι r
      by_cases hc : cap = 0
      · obtain rfl : len = 0 := by omega
        subst hc
        refine ⟨[], h ++ [none], ι ++ [⟨0, 0, 0⟩], [.slice (some ⟨h.length, 0, none⟩) 0 0], ?_, List.prefix_append _ _, List.prefix_append _ _, ⟨[], _, rfl, .inr ⟨_, _, _, rfl, Nat.le_refl _⟩, by simp, .inl ⟨rfl, rfl⟩⟩, .cons (.slice0 (p := ⟨0, 0, 0⟩) (by rw [← r.len]; simp) (.inl rfl)) .nil⟩
        refine ⟨by simp [r.len], fun b k p hb hp => ?_⟩
        by_cases hlt : b < h.length
        · rw [getB_append_left hlt] at hb
          obtain ⟨g1, arr, fz, g2, g3⟩ := r.blk b k p hb (by rwa [List.getElem?_append_left (by rw [r.len]; exact hlt)] at hp)
          refine ⟨g1, arr, fz, g2, fun i v hv => ?_⟩
          obtain ⟨u, hu, hr⟩ := g3 i v hv
          exact ⟨u, hu, hr.pre (List.prefix_append _ _)⟩
        · exfalso
          by_cases he : b = h.length
          · subst he; simp [getB] at hb
          · have := getB_lt hb; simp at this; omega
      · obtain ⟨cs0, h0, _⟩ := hget 0 (by omega)
        obtain ⟨_, hl0, hc0⟩ := World.cells?_some h0
        have hcell := hc0 0 hpos
        rw [List.getElem?_eq_getElem (by omega)] at hcell
        obtain ⟨arr, ty, fz, hblk, hspot, _⟩ := cell?_inv hcell
        obtain ⟨ab, ao, as⟩ := a
        simp only [Nat.zero_mul, Addr.add, if_true] at hblk hspot
        subst hspot
        have hcs : ∀ i cs', W.cells? 0 (Addr.add ⟨ab, ao, none⟩ (i * Rep.sz α)) (Rep.sz α) = some cs' → cs' = (arr.toList.drop (ao + i * Rep.sz α)).take (Rep.sz α) ∧ ao + i * Rep.sz α + Rep.sz α ≤ arr.size := by
          intro i cs' hh
          obtain ⟨_, hl1, hc1⟩ := World.cells?_some hh
          have hc2 : ∀ j, j < Rep.sz α → arr[ao + i * Rep.sz α + j]? = cs'[j]? := by
            intro j hj
            have := hc1 j hj
            rw [show Addr.add (Addr.add ⟨ab, ao, none⟩ (i * Rep.sz α)) j = ⟨ab, ao + i * Rep.sz α + j, none⟩ by unfold Addr.add; split <;> split <;> simp_all [Nat.add_assoc]] at this
            rw [cell?_of hblk] at this; exact this
          have hle : ao + i * Rep.sz α + Rep.sz α ≤ arr.size := by
            have := hc2 (Rep.sz α - 1) (by omega)
            rw [List.getElem?_eq_getElem (by omega)] at this
            have := (Array.getElem?_eq_some_iff.1 this).1
            omega
          refine ⟨?_, hle⟩
          apply List.ext_getElem?
          intro j
          rw [List.getElem?_take]
          split
          · rename_i hj
            rw [List.getElem?_drop, ← hc2 j hj]; simp
          · rw [List.getElem?_eq_none_iff]; omega
        have hfit : ao + cap * Rep.sz α ≤ arr.size := by
          obtain ⟨cs', h1, _⟩ := hget (cap - 1) (by omega)
          have := (hcs _ _ h1).2
          have hs : cap * Rep.sz α = (cap - 1) * Rep.sz α + Rep.sz α := by rw [← Nat.succ_mul]; congr 1; omega
          omega
        have hlc : len * Rep.sz α ≤ cap * Rep.sz α := Nat.mul_le_mul_right _ hl
        obtain ⟨l, h', ι', vcs, fps, r', p', q', c', e', l'⟩ := opens_cells (α := α) (W := W) (arr := arr.toList) ao len (fun i hi => by
          obtain ⟨cs', h1, h2⟩ := hget i (by omega)
          rw [← (hcs _ _ h1).1]; exact h2 hi) (by simp; omega) h ι r
        have hvl := c'.length
        refine ⟨l, h' ++ [some ⟨vcs, ty, true, false⟩], ι' ++ [⟨ab, ao, cap - len⟩], [.slice (some ⟨h'.length, 0, none⟩) len len], ?_, p'.trans (List.prefix_append _ _), q'.trans (List.prefix_append _ _), ?_, ?_⟩
        · refine ⟨by simp [r'.len], fun b k p hb hp => ?_⟩
          rcases getB_append_cases hb with ⟨hlt, hb⟩ | ⟨rfl, rfl⟩
          · obtain ⟨g1, arr, fz, g2, g3⟩ := r'.blk b k p hb (by rwa [List.getElem?_append_left (by rw [r'.len]; exact hlt)] at hp)
            refine ⟨g1, arr, fz, g2, fun i v hv => ?_⟩
            obtain ⟨u, hu, hr⟩ := g3 i v hv
            exact ⟨u, hu, hr.pre (List.prefix_append _ _)⟩
          · rw [← r'.len] at hp
            simp at hp; subst hp
            refine ⟨rfl, arr, fz, hblk, fun i v hv => ?_⟩
            obtain ⟨u, hu, hr⟩ := l'.get i v hv
            refine ⟨u, ?_, .base (hr.pre (List.prefix_append _ _))⟩
            rw [List.getElem?_take] at hu
            split at hu
            · rw [List.getElem?_drop] at hu; simpa using hu
            · simp at hu
        · refine ⟨h'.length :: fps.flatten, _, rfl, .inr ⟨_, _, _, by rw [e'], by omega⟩, by unfold maxLen at hm; omega, .inr ⟨vcs, fps, by simp, ?_, rfl, c'.frame fun b hb => getB_append_left (c'.live b hb)⟩⟩
          simp only [rowB, rowO]
          rw [cellsAt_of getB_append_new (by simp only []; omega)]
          simp [List.take_of_length_le (Nat.le_of_eq hvl.1)]
        · have hp : (ι' ++ [(⟨ab, ao, cap - len⟩ : Place)])[h'.length]? = some ⟨ab, ao, cap - len⟩ := by rw [← r'.len]; simp
          by_cases hl0 : len = 0
          · subst hl0
            exact .cons (.slice0 hp (.inr ⟨by simp, by simp⟩)) .nil
          · have := BR.slice (ι := ι' ++ [(⟨ab, ao, cap - len⟩ : Place)]) (b := h'.length) (off := 0) (len := len) (cap := len) hp (by omega)
            rw [show len + (⟨ab, ao, cap - len⟩ : Place).slack = cap by simp only []; omega] at this
            exact .cons this .nil
end Go.V
end

section
/- The layer V, part 21: what a law's row needs. -/
namespace Go.V
open Go Go.RowKit

theorem cells_slice (a : Option Addr) (n c : Nat) : (Value.slice a n c).cells.toList = [.slice a n c] := rfl

/-- A slice that came in. -/
theorem arg_row {α : Type} [Rep α] [ArgT α] {H : Type} {enc : TypeId × Value → H} {P : Program} {W : World} {t : TypeId} {a : Option Addr} {n c : Nat} {d : DataW H} {ps : List MemPlace}
    (ht : ArgT.ty (List α) P t) (hd : DataW.Trod enc P W 0 (fun _ => true) true t (.slice a n c) d ps) {h : Heap} {ι : List Place} (r : RO W h ι) :
    ∃ (l : List α) (h' : Heap) (ι' : List Place) (v : Value), RO W h' ι' ∧ h <+: h' ∧ ι <+: ι' ∧ Row h' l v ∧ VR ι' v (.slice a n c) := by
  obtain ⟨fuel, hf⟩ := hd
  obtain ⟨l, h', ι', vcs, r', p, q, ⟨fp, v, rfl, hr⟩, hl⟩ := ArgT.opens (α := List α) ht hf h ι r
  rw [cells_slice] at hl
  cases hl with
  | cons hb _ => exact ⟨l, h', ι', v, r', p, q, ⟨fp, hr⟩, .one (.flat (.base hb))⟩

/-- A struct that came in. -/
theorem arg_agg {α : Type} [Rep α] [ArgT α] {H : Type} {enc : TypeId × Value → H} {P : Program} {W : World} {t : TypeId} {cs : Array Value} {d : DataW H} {ps : List MemPlace}
    (ht : ArgT.ty α P t) (hd : DataW.Trod enc P W 0 (fun _ => true) true t (.agg cs) d ps) {h : Heap} {ι : List Place} (r : RO W h ι) :
    ∃ (x : α) (h' : Heap) (ι' : List Place) (vcs : List Value), RO W h' ι' ∧ h <+: h' ∧ ι <+: ι' ∧ Here h' x vcs ∧ VR ι' (.agg vcs.toArray) (.agg cs) := by
  obtain ⟨fuel, hf⟩ := hd
  obtain ⟨x, h', ι', vcs, r', p, q, hx, hl⟩ := ArgT.opens (α := α) ht hf h ι r
  refine ⟨x, h', ι', vcs, r', p, q, hx, .one ?_⟩
  have : AR ι' (.agg vcs.toArray) (.agg cs.toList.toArray) := .agg (hl.imp fun _ _ hb => .base hb)
  simpa using this

theorem VR.pre' {ι ι' : List Place} (h : ι <+: ι') {v u : Value} (r : VR ι v u) : VR ι' v u := VR.pre h r

theorem VR.bool_inv {ι : List Place} {b : Bool} {u : Value} (r : VR ι (.bool b) u) : u = .bool b := by
  generalize hv : Value.bool b = v at r
  cases r with
  | one r =>
    cases r with
    | junk => simp at hv
    | skip => simp at hv
    | flat r =>
      cases r with
      | base r => cases r <;> simp_all
      | func => simp at hv
    | agg => simp at hv
  | tup => simp at hv

/-- What a law's walk comes to. -/
theorem law_calls {P : Program} [Laid P] {f : FuncId} {args us : List Value} {h : Heap} {ι : List Place} {W : World} (hc : CallsV P f args h fun v _ => v = .bool true) (r : RO W h ι) (hg : ∀ w', Below W.heap.size W w' → Laid.G P w') (hu : L2 (VR ι) args us) :
    Calls P f us.toArray W fun e w' => e = .returned (.bool true) ∧ Below W.heap.size W w' := by
  refine (hc W.heap.size ι W us (r.rel hg) hu).mono ?_
  rintro e w' ⟨v, u, h', ι', rfl, rfl, hv, _, _, hb⟩
  exact ⟨by rw [hv.bool_inv], hb⟩
end Go.V
end

section
/- The layer V, part 22: more steps as equations: structs, new blocks, slices. -/
namespace Go.V
open Go Go.RowKit

theorem x_field (P : Program) (t : TypeId) (l : List Value) (f : Nat) : fieldV P t (.agg l.toArray) f = (tField P t f).bind fun x => partV P x.2 l x.1 := rfl
theorem x_part (P : Program) (t : TypeId) (l : List Value) (off : Nat) : partV P t l off = (tk P t).bind fun k => if k.agg then some (.agg ((l.drop off).take k.size).toArray) else l[off]? := rfl
theorem x_store (P : Program) (t : TypeId) (b off : Nat) (x : Value) (h : Heap) : storeV P t (.pointer (some ⟨b, off, none⟩)) x h = (tk P t).bind fun k => (cellsV x).bind fun cs => if cs.length = k.size then writeB h b off cs else none := by
  unfold storeV
  cases tk P t with
  | none => rfl
  | some k => cases cellsV x <;> rfl
theorem c_int (k : IntKind) (n : Int) : cellsV (.int k n) = some [.int k n] := rfl
theorem c_bool (n : Bool) : cellsV (.bool n) = some [.bool n] := rfl
theorem c_string (n : ByteArray) : cellsV (.string n) = some [.string n] := rfl
theorem c_slice (a : Option Addr) (n c : Nat) : cellsV (.slice a n c) = some [.slice a n c] := rfl
theorem c_pointer (a : Option Addr) : cellsV (.pointer a) = some [.pointer a] := rfl
theorem c_agg (l : List Value) : cellsV (.agg l.toArray) = some l := rfl
theorem c_nilIface : cellsV .nilIface = some [.nilIface] := rfl
theorem c_iface (t : TypeId) (v : Value) : cellsV (.iface t v) = some [.iface t v] := rfl

/-! ### blocks made here: h ++ [a, b, ..] -/
def topC (o : Option (Option Blk)) (off : Nat) : Option Value := match o with | some (some k) => k.cells[off]? | _ => none
theorem t_getC0 (h : Heap) (l : List (Option Blk)) (off : Nat) : getC (h ++ l) h.length off = topC l[0]? off := by
  unfold getC getB topC
  rw [List.getElem?_append_right (Nat.le_refl _), Nat.sub_self]
  cases l[0]? with
  | none => rfl
  | some x => cases x <;> rfl
theorem t_getC (h : Heap) (l : List (Option Blk)) (i off : Nat) : getC (h ++ l) (h.length + i) off = topC l[i]? off := by
  unfold getC getB topC
  rw [List.getElem?_append_right (by omega), Nat.add_sub_cancel_left]
  cases l[i]? with
  | none => rfl
  | some x => cases x <;> rfl
theorem t_topC (k : Blk) (off : Nat) : topC (some (some k)) off = k.cells[off]? := rfl
def topA (o : Option (Option Blk)) (off n : Nat) : Option (List Value) := match o with | some (some k) => if off + n ≤ k.cells.length then some ((k.cells.drop off).take n) else none | _ => none
theorem t_cellsAt0 (h : Heap) (l : List (Option Blk)) (off n : Nat) : cellsAt (h ++ l) h.length off n = topA l[0]? off n := by
  unfold cellsAt getB topA
  rw [List.getElem?_append_right (Nat.le_refl _), Nat.sub_self]
  cases l[0]? with
  | none => rfl
  | some x => cases x <;> rfl
theorem t_cellsAt (h : Heap) (l : List (Option Blk)) (i off n : Nat) : cellsAt (h ++ l) (h.length + i) off n = topA l[i]? off n := by
  unfold cellsAt getB topA
  rw [List.getElem?_append_right (by omega), Nat.add_sub_cancel_left]
  cases l[i]? with
  | none => rfl
  | some x => cases x <;> rfl
theorem t_topA (k : Blk) (off n : Nat) : topA (some (some k)) off n = if off + n ≤ k.cells.length then some ((k.cells.drop off).take n) else none := rfl
def topW (h : Heap) (l : List (Option Blk)) (i : Nat) (o : Option (Option Blk)) (off : Nat) (cs : List Value) : Option Heap := match o with
  | some (some k) => if !k.ro && decide (off + cs.length ≤ k.cells.length) then some (h ++ l.set i (some { k with cells := putCells k.cells off cs })) else none
  | _ => none
theorem t_write (h : Heap) (l : List (Option Blk)) (i off : Nat) (cs : List Value) : writeB (h ++ l) (h.length + i) off cs = topW h l i l[i]? off cs := by
  unfold writeB getB topW
  rw [List.getElem?_append_right (by omega), Nat.add_sub_cancel_left]
  cases l[i]? with
  | none => rfl
  | some x =>
    cases x with
    | none => rfl
    | some k =>
      simp only [Option.join_some, List.set_append_right _ _ (show h.length ≤ h.length + i by omega), Nat.add_sub_cancel_left]
theorem t_write0 (h : Heap) (l : List (Option Blk)) (off : Nat) (cs : List Value) : writeB (h ++ l) h.length off cs = topW h l 0 l[0]? off cs := t_write h l 0 off cs
theorem t_topW (h : Heap) (l : List (Option Blk)) (i : Nat) (c : List Value) (ty : TypeId) (ex : Bool) (off : Nat) (cs : List Value) : topW h l i (some (some ⟨c, ty, false, ex⟩)) off cs = if off + cs.length ≤ c.length then some (h ++ l.set i (some ⟨putCells c off cs, ty, false, ex⟩)) else none := by
  simp only [topW, Bool.not_false, Bool.true_and, decide_eq_true_eq]
theorem t_put (l : List Value) (off : Nat) (cs : List Value) : putCells l off cs = l.take off ++ cs ++ l.drop (off + cs.length) := rfl
theorem x_build (P : Program) (t : TypeId) (parts : List (Nat × Value)) : buildV P t parts = (tk P t).bind fun k => if k.kind = 6 then (if !k.fok then none else (fillV (fieldPl P t) k.zero parts).map fun cs => .agg cs.toArray) else (tArr P t).bind fun (_, el) => (tk P el).bind fun ke => (fillV (fun i => some (i * ke.size, ke.size)) k.zero parts).map fun cs => .agg cs.toArray := rfl
theorem x_fill_nil (place : Nat → Option (Nat × Nat)) (cells : List Value) : fillV place cells [] = some cells := rfl
def fillK (place : Nat → Option (Nat × Nat)) (cells : List Value) (p : Option (Nat × Nat)) (c : Option (List Value)) (rest : List (Nat × Value)) : Option (List Value) :=
  p.bind fun p => c.bind fun cs => if cs.length = p.2 ∧ p.1 + p.2 ≤ cells.length then fillV place (putCells cells p.1 cs) rest else none
theorem x_fill (place : Nat → Option (Nat × Nat)) (cells : List Value) (i : Nat) (v : Value) (rest : List (Nat × Value)) : fillV place cells ((i, v) :: rest) = fillK place cells (place i) (cellsV v) rest := by
  unfold fillK
  conv => lhs; unfold fillV
  cases place i with
  | none => rfl
  | some p => cases cellsV v <;> rfl
theorem x_fillK (place : Nat → Option (Nat × Nat)) (cells : List Value) (a b : Nat) (cs : List Value) (rest : List (Nat × Value)) : fillK place cells (some (a, b)) (some cs) rest = if cs.length = b ∧ a + b ≤ cells.length then fillV place (putCells cells a cs) rest else none := rfl
theorem x_fieldPl (P : Program) (t : TypeId) (i : Nat) : fieldPl P t i = (tField P t i).bind fun x => (tk P x.2).map fun k => (x.1, k.size) := rfl
theorem x_buildSlice (P : Program) (t : TypeId) (n : Nat) (parts : List (Nat × Value)) (h : Heap) : buildSliceV P t n parts h = (tElem P t).bind fun el => (tk P el).bind fun k => if n * k.size ≤ 16777216 then (fillV (fun i => some (i * k.size, k.size)) (rep n k.zero) parts).map fun cs => (.slice (some ⟨h.length, 0, none⟩) n n, h ++ [some ⟨cs, el, false, true⟩]) else none := rfl
theorem x_rep0 (l : List Value) : rep 0 l = [] := rfl
theorem x_rep (n : Nat) (l : List Value) : rep (n + 1) l = l ++ rep n l := rfl
def allocK (o : Option TK) (t : TypeId) (K : Value → Heap → Prop) (h : Heap) : Prop := match o with | some k => K (.pointer (some ⟨h.length, 0, none⟩)) (h ++ [some ⟨k.zero, t, false, true⟩]) | none => False
theorem x_alloc (P : Program) [Laid P] (t : TypeId) (e : Env) (h : Heap) (K : Value → Heap → Prop) : opV P (.alloc t) e h K = allocK (tk P t) t K h := rfl
theorem x_allocK (k : TK) (t : TypeId) (K : Value → Heap → Prop) (h : Heap) : allocK (some k) t K h = K (.pointer (some ⟨h.length, 0, none⟩)) (h ++ [some ⟨k.zero, t, false, true⟩]) := rfl
def boxK (o : Option TK) (c : Option (List Value)) (t : TypeId) (K : Value → Heap → Prop) (h : Heap) : Prop := match o, c with | some k, some cs => cs.length = k.size ∧ K (.pointer (some ⟨h.length, 0, none⟩)) (h ++ [some ⟨cs, t, false, true⟩]) | _, _ => False
theorem x_box (P : Program) [Laid P] (t : TypeId) (x : Operand) (e : Env) (h : Heap) (K : Value → Heap → Prop) : opV P (.box t x) e h K = boxK (tk P t) (cellsV (evO e x)) t K h := rfl
theorem x_boxK (k : TK) (cs : List Value) (t : TypeId) (K : Value → Heap → Prop) (h : Heap) : boxK (some k) (some cs) t K h = (cs.length = k.size ∧ K (.pointer (some ⟨h.length, 0, none⟩)) (h ++ [some ⟨cs, t, false, true⟩])) := rfl
theorem x_nilCheck (a : Addr) : nilCheckV (.pointer (some a)) = some (.pointer (some a)) := rfl
theorem x_tuple (l : List Value) (i : Nat) : extractV (.tuple l.toArray) i = l[i]? := rfl
theorem fill_one {α : Type} {l : List α} {i m : Nat} {x z : α} (hx : l[i]? = some x) : (l.take i ++ List.replicate (m + 1) z).set i x = l.take (i + 1) ++ List.replicate m z := by
  have hi := (List.getElem?_eq_some_iff.1 hx).1
  have hl : (l.take i).length = i := by rw [List.length_take]; omega
  rw [List.set_append_right _ _ (by omega), hl, Nat.sub_self, List.replicate_succ, List.set_cons_zero, List.take_add_one, hx]
  simp
theorem fill_two {α : Type} {l : List α} {j m : Nat} {f z : α} : (l ++ List.replicate j f ++ List.replicate (m + 1) z).set (l.length + j) f = l ++ List.replicate (j + 1) f ++ List.replicate m z := by
  have hl : (l ++ List.replicate j f).length = l.length + j := by simp
  rw [List.set_append_right _ _ (by omega), hl, Nat.sub_self, List.replicate_succ (n := m), List.set_cons_zero, List.replicate_succ' (n := j)]
  simp

/-- How much room the harness leaves behind a list. -/
def roomM (n : Nat) : Nat := if n % 6 = 5 then 0 else if n % 3 = 0 then 1 else n
theorem roomM_le (n : Nat) : roomM n ≤ n + 1 := by unfold roomM; split; omega; split <;> omega
theorem tmod_nat (n m : Nat) : Int.tmod (n : Int) (m : Int) = ((n % m : Nat) : Int) := by rw [Int.tmod_eq_emod_of_nonneg (by omega)]; rfl

/-- A list with room behind it, as the harness lays it. -/
def Gave {α : Type} [Rep α] (lo : Nat) (el : TypeId) (h : Heap) (l : List α) (fill : α) (v : Value) : Prop :=
  ∃ vf fp, Own el h (l ++ List.replicate (roomM l.length) fill) vf fp ∧ (∀ b ∈ fp, lo ≤ b) ∧ v = cutV vf (Rep.sz α) 0 l.length ∧ rowC vf = l.length + roomM l.length
theorem Gave.row {α : Type} [Rep α] {lo : Nat} {el : TypeId} {h : Heap} {l : List α} {fill : α} {v : Value} (g : Gave lo el h l fill v) : Row h l v := by
  obtain ⟨vf, fp, o, _, rfl, _⟩ := g
  have := o.toRow.cut (lo := 0) (m := l.length) (Nat.zero_le _) (by simp)
  simpa using this
theorem Gave.mono {α : Type} [Rep α] {lo : Nat} {el : TypeId} {h h' : Heap} {l : List α} {fill : α} {v : Value} (g : Gave lo el h l fill v) (e : Ext h h') : Gave lo el h' l fill v := by
  obtain ⟨vf, fp, o, h1, h2⟩ := g
  exact ⟨vf, fp, o.frame fun b hb => e.eq b (o.live b hb), h1, h2⟩
/-- The list with all its room. -/
theorem Gave.all {α : Type} [Rep α] {lo : Nat} {el : TypeId} {h : Heap} {l : List α} {fill : α} {v : Value} (g : Gave lo el h l fill v) : rowC v = l.length + roomM l.length ∧ Row h (l ++ List.replicate (roomM l.length) fill) (cutV v (Rep.sz α) 0 (l.length + roomM l.length)) := by
  obtain ⟨vf, fp, o, h1, rfl, hc⟩ := g
  have hr := o.toRow.cut (lo := 0) (m := l.length + roomM l.length) (Nat.zero_le _) (by simp)
  have he : (l ++ List.replicate (roomM l.length) fill).take (l.length + roomM l.length) = l ++ List.replicate (roomM l.length) fill := List.take_of_length_le (by simp)
  rw [he, List.drop_zero] at hr
  rcases o.isRow with ⟨rfl, hn⟩ | ⟨b, off, cap, rfl, hle⟩
  · simp only [rowC] at hc
    exact ⟨by simp only [cutV, rowC]; omega, by simpa [cutV] using hr⟩
  · simp only [rowC] at hc
    refine ⟨by simp only [cutV, rowC]; omega, ?_⟩
    simpa [cutV] using hr

theorem len2 (h : Heap) (a b : Option Blk) : h.length + 2 = (h ++ [a, b]).length := by simp
theorem len3 (h : Heap) (a b c : Option Blk) : h.length + 3 = (h ++ [a, b, c]).length := by simp
theorem Own.ext {α : Type} [Rep α] {el : TypeId} {h h' : Heap} {l : List α} {v : Value} {fp : List Nat} (o : Own el h l v fp) (e : Ext h h') : Own el h' l v fp := o.frame fun b hb => e.eq b (o.live b hb)
/-- Another row stays as it is. -/
theorem Own.other {α : Type} [Rep α] {el : TypeId} {h h' : Heap} {l : List α} {v : Value} {fp S : List Nat} (o : Own el h l v fp) (c : Chg S h h') (hd : ∀ b ∈ fp, b ∉ S) : Own el h' l v fp := o.frame fun b hb => c.eq b (o.live b hb) (hd b hb)

theorem row_int {h : Heap} {l : List Int} {v : Value} (hr : Row h l v) {i : Nat} {x : Int} (hx : l[i]? = some x) : getC h (rowB v) (rowO v + i) = some (.int .i64 x) ∧ inI64 x := by
  obtain ⟨xs, hc, fp, h1, _, h2⟩ := hr.at hx
  subst h1
  have := cellsAt_getC hc 0 (by decide)
  have e : Rep.sz Int = 1 := rfl
  rw [e, Nat.mul_one] at this
  exact ⟨this, h2⟩
theorem rep_int {h : Heap} {x : Int} (hx : inI64 x) : Rep.rep h x [.int .i64 x] [] := ⟨rfl, rfl, hx⟩
theorem str_add (a b : ByteArray) (h : a.size + b.size ≤ 9223372036854775807) : strV .add a b = some (.string (a ++ b)) := by
  unfold strV
  have : IntKind.i64.max = 9223372036854775807 := by decide
  rw [this, if_neg (by omega)]
theorem beq_bytes (a b : ByteArray) : (a.toList == b.toList) = decide (a = b) := by
  rw [Bool.eq_iff_iff, beq_iff_eq, decide_eq_true_eq]
  constructor
  · intro h
    rw [ByteArray.toList_eq, ByteArray.toList_eq] at h
    cases a; cases b
    congr 1
    exact Array.ext' h
  · rintro rfl; rfl
theorem str_eql (a b : ByteArray) : strV .eql a b = some (.bool (decide (a = b))) := by rw [← beq_bytes]; rfl
theorem str_neq (a b : ByteArray) : strV .neq a b = some (.bool !decide (a = b)) := by rw [← beq_bytes]; rfl

def VY := And.intro @x_field (And.intro @x_part (And.intro @x_store (And.intro @c_int (And.intro @c_bool (And.intro @c_string (And.intro @c_slice (And.intro @c_pointer (And.intro @c_agg (And.intro @c_nilIface (And.intro @c_iface (And.intro @t_getC0 (And.intro @t_getC (And.intro @t_topC (And.intro @t_cellsAt0 (And.intro @t_cellsAt (And.intro @t_topA (And.intro @t_write (And.intro @t_write0 (And.intro @t_topW (And.intro @t_put (And.intro @x_build (And.intro @x_fill_nil (And.intro @x_fill (And.intro @x_fillK (And.intro @x_fieldPl (And.intro @x_buildSlice (And.intro @x_rep0 (And.intro @x_rep (And.intro @x_alloc (And.intro @x_allocK (And.intro @x_box (And.intro @x_boxK (And.intro @x_nilCheck (And.intro @x_tuple (And.intro @hi_none (And.intro @hi_some (And.intro @lo_none (And.intro @lo_some (And.intro @bound_in (And.intro @if_le (And.intro @str_add (And.intro @str_eql (And.intro @str_neq (@s_sl_str))))))))))))))))))))))))))))))))))))))))))))
end Go.V
end

section
/- The layer V, part 23: structs compared. -/
namespace Go.V
open Go Go.RowKit

theorem s_max2 (P : Program) (t0 t1 : TypeId) (k : IntKind) (x y : Int) (h : Heap) (K : Value → Heap → Prop) : builtinV P .max #[t0, t1] [.int k x, .int k y] h K = K (.int k (max x y)) h := by
  have e : maxV [.int k x, .int k y] = some (.int k (max x y)) := by
    simp only [maxV, foldV, max2V, ↓reduceIte, Option.bind_some]
    congr 2
    omega
  simp only [builtinV, e]
theorem s_min2 (P : Program) (t0 t1 : TypeId) (k : IntKind) (x y : Int) (h : Heap) (K : Value → Heap → Prop) : builtinV P .min #[t0, t1] [.int k x, .int k y] h K = K (.int k (min x y)) h := by
  have e : minV [.int k x, .int k y] = some (.int k (min x y)) := by
    simp only [minV, foldV, min2V, ↓reduceIte, Option.bind_some]
    congr 2
    omega
  simp only [builtinV, e]
theorem b_eq_agg (k : Nat) (a b : Array Value) : binV .eql k (.agg a) (.agg b) = none := by simp [binV, eqV]
theorem b_ne_agg (k : Nat) (a b : Array Value) : binV .neq k (.agg a) (.agg b) = none := by simp [binV, eqV]
theorem s_binK_none (P : Program) (op : BinOp) (t : TypeId) (xo yo : Operand) (x y : Value) (K : Value → Heap → Prop) (h : Heap) : binK P none op t xo yo x y K h = BinC P op t xo yo x y fun v => K v h := rfl
def VZ := And.intro @s_max2 (And.intro @s_min2 (And.intro @b_eq_agg (And.intro @b_ne_agg @s_binK_none)))
end Go.V
end

section
/- The layer V, part 24: pieces of memory that do not overlap. -/
namespace Go.V
open Go Go.RowKit

def own1 : Value → List Nat | .slice (some a) _ _ => [a.block] | _ => []
/-- May be written. -/
def rwB (h : Heap) (b : Nat) : Prop := ∃ k, getB h b = some k ∧ k.ro = false
theorem rwB.of {h h' : Heap} {b : Nat} (r : rwB h b) (e : getB h' b = getB h b) : rwB h' b := by
  obtain ⟨k, h1, h2⟩ := r; exact ⟨k, e.trans h1, h2⟩
theorem rwB.lt {h : Heap} {b : Nat} (r : rwB h b) : b < h.length := by obtain ⟨k, h1, _⟩ := r; exact getB_lt h1

/-- append, with its new elements told; what is changed, and where the new blocks come from. -/
theorem own_append2 {α : Type} [Rep α] {P : Program} {t el : TypeId} {k : TK} {h : Heap} {l ys : List α} {v x : Value} {fp : List Nat} {cs : List Value} {gps : List (List Nat)}
    (ov : Own el h l v fp) (ht : tElem P t = some el) (hk : tk P el = some k) (hs : k.size = Rep.sz α)
    (hx : lenV x = some ys.length) (hr : rowV h (Rep.sz α) ys.length x = some cs) (hc : Cells h ys cs gps) (hd : (fp ++ gps.flatten).Nodup)
    (hb : (l.length + ys.length) * k.bytes ≤ 140737488355328) (hn : l.length + ys.length ≤ 9223372036854775807) :
    ∃ v' h' fp', appendV P t v x h = some (v', h') ∧ Own el h' (l ++ ys) v' fp' ∧ Chg (own1 v) h h' ∧ (∀ c ∈ fp', (c = rowB v' ∧ (c ∈ fp ∨ h.length ≤ c)) ∨ (c ∈ fp ∧ c ∉ own1 v) ∨ c ∈ gps.flatten) := by
  have hd1 := (List.nodup_append.1 hd)
  have hlen := hc.length
  rcases ov.cases with ⟨rfl, rfl, rfl⟩ | ⟨b, off, cap, kb, fps, rfl, hle, h1, h2, h3, h4, rfl, hcl⟩
  · -- nothing there as yet
    simp only [appendV, ht, hk, Option.bind_some, hx, hs, hr]
    by_cases hy : ys.length = 0
    · obtain rfl := List.length_eq_zero_iff.1 hy
      obtain ⟨rfl, rfl⟩ := hc
      exact ⟨.slice none 0 0, h, [], by simp, by simpa using Own.nil el h, (Ext.refl h).chg, by simp⟩
    · simp only [List.length_nil] at hb hn
      rw [if_neg (show ¬ (0 + ys.length ≤ 0) by omega), if_pos hb]
      simp only [if_true]
      refine ⟨_, _, h.length :: gps.flatten, rfl, ?_, (Ext.one h _).chg, ?_⟩
      · have hg : getB (h ++ [some ⟨cs, el, false, false⟩]) h.length = some ⟨cs, el, false, false⟩ := getB_append_new
        have hfr : Cells (h ++ [some ⟨cs, el, false, false⟩]) ys cs gps := hc.frame fun b hb => getB_append_left (hc.live b hb)
        refine Own.mk' (l := ys) (off := 0) (cap := ys.length) (Nat.le_refl _) (by omega) hg rfl rfl (by simpa using hlen.1.symm) ?_ ?_
        · simpa [List.take_of_length_le (Nat.le_of_eq hlen.1)] using hfr
        · refine List.nodup_cons.2 ⟨fun hm => ?_, hd1.2.1⟩
          have := hc.live _ hm; omega
      · intro b hb
        rcases List.mem_cons.1 hb with rfl | hb
        · exact .inl ⟨rfl, .inr (Nat.le_refl _)⟩
        · exact .inr (.inr hb)
  · obtain ⟨kc, kty, kro, kex⟩ := kb
    simp only at h2 h3 h4 hcl
    subst h2; subst h3
    have hfl : ∀ c ∈ fps.flatten, c ≠ b := fun c hc e => by subst e; exact (List.nodup_cons.1 ov.nodup).1 hc
    have hgl : ∀ c ∈ gps.flatten, c ≠ b := fun c hc e => by subst e; exact hd1.2.2 c (by simp) c hc rfl
    have hll := hcl.live
    have hlc := hcl.length
    have hmul : l.length * Rep.sz α ≤ cap * Rep.sz α := Nat.mul_le_mul_right _ hle
    simp only [appendV, ht, hk, Option.bind_some, hx, hs, hr]
    by_cases hfit : l.length + ys.length ≤ cap
    · rw [if_pos hfit]
      by_cases hy : ys.length = 0
      · obtain rfl := List.length_eq_zero_iff.1 hy
        obtain ⟨rfl, rfl⟩ := hc
        exact ⟨.slice (some ⟨b, off, none⟩) l.length cap, h, _, by simp, by simpa using ov, (Ext.refl h).chg, fun c hb => by
          rcases List.mem_cons.1 hb with rfl | hb
          · exact .inl ⟨rfl, .inl (by simp)⟩
          · exact .inr (.inl ⟨List.mem_cons_of_mem _ hb, by simpa [own1] using hfl c hb⟩)⟩
      · rw [if_neg hy]
        have hm2 : l.length * Rep.sz α + ys.length * Rep.sz α ≤ cap * Rep.sz α := by rw [← Nat.add_mul]; exact Nat.mul_le_mul_right _ hfit
        have hwl : off + l.length * Rep.sz α + cs.length ≤ kc.length := by omega
        simp only [writeB, h1, Bool.not_false, Bool.true_and, decide_eq_true hwl, if_true, Option.map_some]
        have hg : getB (h.set b (some ⟨putCells kc (off + l.length * Rep.sz α) cs, kty, false, kex⟩)) b = some ⟨putCells kc (off + l.length * Rep.sz α) cs, kty, false, kex⟩ := by rw [getB_set (getB_lt h1), if_pos rfl]
        have hframe : ∀ c, c ≠ b → getB (h.set b (some ⟨putCells kc (off + l.length * Rep.sz α) cs, kty, false, kex⟩)) c = getB h c := fun c hc => by rw [getB_set (getB_lt h1), if_neg hc]
        refine ⟨_, _, b :: (fps ++ gps).flatten, rfl, ?_, ⟨by simp, fun c _ hc => hframe c fun e => hc (by rw [e]; simp [own1])⟩, ?_⟩
        · have := Own.mk' (α := α) (el := kty) (l := l ++ ys) (b := b) (off := off) (cap := cap) (k := ⟨putCells kc (off + l.length * Rep.sz α) cs, kty, false, kex⟩) (fps := fps ++ gps) (h := h.set b (some ⟨putCells kc (off + l.length * Rep.sz α) cs, kty, false, kex⟩))
            (by simpa using hfit) (by simpa using hn) hg rfl rfl (by simp only [putCells_length hwl]; exact h4) ?_ ?_
          · simpa using this
          · have e : (List.drop off (putCells kc (off + l.length * Rep.sz α) cs)).take ((l ++ ys).length * Rep.sz α) = (kc.drop off).take (l.length * Rep.sz α) ++ cs := by
              apply List.ext_getElem?
              intro i
              rw [List.getElem?_take, List.length_append, Nat.add_mul]
              split
              · rename_i hi
                rw [List.getElem?_drop]
                by_cases hi2 : i < l.length * Rep.sz α
                · rw [putCells_out hwl (.inl (by omega)), List.getElem?_append_left (by rw [List.length_take, List.length_drop]; omega), List.getElem?_take, if_pos hi2, List.getElem?_drop]
                · rw [putCells_in hwl (by omega) (by omega), List.getElem?_append_right (by rw [List.length_take, List.length_drop]; omega)]
                  congr 1; rw [List.length_take, List.length_drop]; omega
              · symm; rw [List.getElem?_eq_none_iff, List.length_append, List.length_take, List.length_drop]; omega
            rw [e]
            exact (hcl.frame fun c hc => hframe c (hfl c hc)).append (hc.frame fun c hc => hframe c (hgl c hc))
          · rw [List.flatten_append]; exact hd
        · intro c hc
          rw [List.flatten_append] at hc
          rcases List.mem_cons.1 hc with rfl | hc
          · exact .inl ⟨rfl, .inl (by simp)⟩
          · rcases List.mem_append.1 hc with hc | hc
            · exact .inr (.inl ⟨List.mem_cons_of_mem _ hc, by simpa [own1] using hfl c hc⟩)
            · exact .inr (.inr hc)
    · rw [if_neg hfit, if_pos hb]
      simp only [h1, Bool.not_false, Bool.true_and, Option.bind_some]
      rw [if_pos (by simp [h4, hle])]
      rw [rowV_cells (cellsAt_of h1 (by simp only []; omega))]
      simp only [Option.map_some]
      have hg : getB (killB h b ++ [some ⟨(kc.drop off).take (l.length * Rep.sz α) ++ cs, kty, false, false⟩]) h.length = some ⟨(kc.drop off).take (l.length * Rep.sz α) ++ cs, kty, false, false⟩ := by
        have := getB_append_new (h := killB h b) (k := ⟨(kc.drop off).take (l.length * Rep.sz α) ++ cs, kty, false, false⟩)
        rwa [kill_length] at this
      have hframe : ∀ c, c < h.length → c ≠ b → getB (killB h b ++ [some ⟨(kc.drop off).take (l.length * Rep.sz α) ++ cs, kty, false, false⟩]) c = getB h c := fun c hc hb => by
        rw [getB_append_left (by rw [kill_length]; exact hc), getB_kill hb]
      refine ⟨_, _, h.length :: (fps ++ gps).flatten, rfl, ?_, ⟨by simp [kill_length], fun c hc hn => hframe c hc fun e => hn (by rw [e]; simp [own1])⟩, ?_⟩
      · have := Own.mk' (α := α) (el := kty) (l := l ++ ys) (b := h.length) (off := 0) (cap := l.length + ys.length) (fps := fps ++ gps) (Nat.le_of_eq (by simp)) (by simpa using hn) hg rfl rfl
          (by simp only [List.length_append]; rw [hlc.1, hlen.1, Nat.add_mul]; omega) ?_ ?_
        · simpa using this
        · have e : ∀ A : List Value, A.length = l.length * Rep.sz α → (A ++ cs).take ((l ++ ys).length * Rep.sz α) = A ++ cs := fun A hA => List.take_of_length_le (by rw [List.length_append, List.length_append, Nat.add_mul]; omega)
          rw [List.drop_zero, e _ hlc.1]
          exact (hcl.frame fun c hc => hframe c (hll c hc) (hfl c hc)).append (hc.frame fun c hcc => hframe c (hc.live c hcc) (hgl c hcc))
        · rw [List.flatten_append]
          refine List.nodup_cons.2 ⟨fun hm => ?_, (List.nodup_cons.1 (by simpa using hd)).2⟩
          rcases List.mem_append.1 hm with hm | hm
          · have := hll _ hm; omega
          · have := hc.live _ hm; omega
      · intro c hc
        rw [List.flatten_append] at hc
        rcases List.mem_cons.1 hc with rfl | hc
        · exact .inl ⟨rfl, .inr (Nat.le_refl _)⟩
        · rcases List.mem_append.1 hc with hc | hc
          · exact .inr (.inl ⟨List.mem_cons_of_mem _ hc, by simpa [own1] using hfl c hc⟩)
          · exact .inr (.inr hc)

/-- A piece of memory and what it holds. -/
structure Asr where
  holds : Heap → List Nat → Prop
  frame : ∀ {h h' fp}, holds h fp → (∀ b ∈ fp, getB h' b = getB h b) → holds h' fp
  live : ∀ {h fp}, holds h fp → ∀ b ∈ fp, b < h.length
def ownA {α : Type} [Rep α] (el : TypeId) (l : List α) (v : Value) : Asr := ⟨fun h fp => Own el h l v fp, fun o hf => o.frame hf, fun o => o.live⟩
def repA {α : Type} [Rep α] (x : α) (cs : List Value) : Asr := ⟨fun h fp => Rep.rep h x cs fp, fun o hf => Rep.frame o hf, fun o => Rep.live o⟩

def cellsA {α : Type} [Rep α] (l : List α) (cs : List Value) : Asr := ⟨fun h fp => ∃ fps, Cells h l cs fps ∧ fp = fps.flatten, fun ⟨fps, o, e⟩ hf => ⟨fps, o.frame fun b hb => hf b (by rw [e]; exact hb), e⟩, fun ⟨fps, o, e⟩ b hb => o.live b (by rw [← e]; exact hb)⟩
/-- Two pieces as one. -/
def bothA (x y : Asr) : Asr := ⟨fun h fp => ∃ f g, fp = f ++ g ∧ x.holds h f ∧ y.holds h g,
  fun ⟨f, g, e, h1, h2⟩ hf => ⟨f, g, e, x.frame h1 fun b hb => hf b (by rw [e]; simp [hb]), y.frame h2 fun b hb => hf b (by rw [e]; simp [hb])⟩,
  fun ⟨f, g, e, h1, h2⟩ b hb => by
    rw [e] at hb
    rcases List.mem_append.1 hb with hb | hb
    · exact x.live h1 b hb
    · exact y.live h2 b hb⟩

def SepF (h : Heap) : List Asr → List Nat → Prop
  | [], fp => fp = []
  | a :: L, fp => ∃ f g, fp = f ++ g ∧ a.holds h f ∧ SepF h L g
theorem SepF.frame {h h' : Heap} : ∀ {L : List Asr} {fp : List Nat}, SepF h L fp → (∀ b ∈ fp, getB h' b = getB h b) → SepF h' L fp := by
  intro L
  induction L with
  | nil => intro fp s _; exact s
  | cons a L ih =>
    rintro fp ⟨f, g, rfl, ha, s⟩ hf
    exact ⟨f, g, rfl, a.frame ha fun b hb => hf b (by simp [hb]), ih s fun b hb => hf b (by simp [hb])⟩
theorem SepF.live {h : Heap} : ∀ {L : List Asr} {fp : List Nat}, SepF h L fp → ∀ b ∈ fp, b < h.length := by
  intro L
  induction L with
  | nil => intro fp s b hb; rw [show fp = [] from s] at hb; simp at hb
  | cons a L ih =>
    rintro fp ⟨f, g, rfl, ha, s⟩ b hb
    rcases List.mem_append.1 hb with hb | hb
    · exact a.live ha b hb
    · exact ih s b hb
theorem SepF.append {h : Heap} : ∀ {L M : List Asr} {f g : List Nat}, SepF h L f → SepF h M g → SepF h (L ++ M) (f ++ g) := by
  intro L
  induction L with
  | nil => intro M f g s t; rw [show f = [] from s]; exact t
  | cons a L ih =>
    rintro M f g ⟨f1, f2, rfl, ha, s⟩ t
    exact ⟨f1, f2 ++ g, by simp, ha, ih s t⟩
theorem SepF.split {h : Heap} : ∀ {L M : List Asr} {fp : List Nat}, SepF h (L ++ M) fp → ∃ f g, fp = f ++ g ∧ SepF h L f ∧ SepF h M g := by
  intro L
  induction L with
  | nil => intro M fp s; exact ⟨[], fp, rfl, rfl, s⟩
  | cons a L ih =>
    rintro M fp ⟨f1, f2, rfl, ha, s⟩
    obtain ⟨g1, g2, rfl, s1, s2⟩ := ih s
    exact ⟨f1 ++ g1, g2, by simp, ⟨f1, g1, rfl, ha, s1⟩, s2⟩

/-- Since the heap a: what lay there then is as it was; these pieces are new, may be written and do not overlap. -/
def Sep (a h : Heap) (L : List Asr) : Prop := Ext a h ∧ ∃ fp, SepF h L fp ∧ fp.Nodup ∧ ∀ b ∈ fp, a.length ≤ b ∧ rwB h b

section
variable {a h h' : Heap} {L M : List Asr}
theorem Sep.ext (s : Sep a h L) : Ext a h := s.1
theorem Sep.nil (e : Ext a h) : Sep a h [] := ⟨e, [], rfl, List.nodup_nil, by simp⟩
theorem Sep.mono (s : Sep a h L) (e : Ext h h') : Sep a h' L := by
  obtain ⟨e0, fp, s, hd, hn⟩ := s
  exact ⟨e0.trans e, fp, s.frame fun b hb => e.eq b (s.live b hb), hd, fun b hb => ⟨(hn b hb).1, (hn b hb).2.of (e.eq b (s.live b hb))⟩⟩
theorem Sep.back {b : Heap} (s : Sep b h L) (e : Ext a b) : Sep a h L := by
  obtain ⟨e0, fp, s, hd, hn⟩ := s
  exact ⟨e.trans e0, fp, s, hd, fun c hc => ⟨Nat.le_trans e.le (hn c hc).1, (hn c hc).2⟩⟩
/-- What a call has made, beside what there was. -/
theorem Sep.add (s : Sep a h L) (t : Sep h h' M) : Sep a h' (M ++ L) := by
  obtain ⟨e0, f, s1, hd, hn⟩ := s
  obtain ⟨e1, g, t1, hd2, hn2⟩ := t
  have hl := s1.live
  refine ⟨e0.trans e1, g ++ f, t1.append (s1.frame fun b hb => e1.eq b (hl b hb)), List.nodup_append.2 ⟨hd2, hd, fun x hx y hy e => ?_⟩, fun b hb => ?_⟩
  · subst e
    have := (hn2 x hx).1
    have := hl x hy
    omega
  · rcases List.mem_append.1 hb with hb | hb
    · exact ⟨Nat.le_trans e0.le (hn2 b hb).1, (hn2 b hb).2⟩
    · exact ⟨(hn b hb).1, (hn b hb).2.of (e1.eq b (hl b hb))⟩
theorem Sep.comm (s : Sep a h (L ++ M)) : Sep a h (M ++ L) := by
  obtain ⟨e0, fp, s, hd, hn⟩ := s
  obtain ⟨f, g, rfl, s1, s2⟩ := s.split
  have hd' := List.nodup_append.1 hd
  refine ⟨e0, g ++ f, s2.append s1, List.nodup_append.2 ⟨hd'.2.1, hd'.1, fun x hx y hy e => hd'.2.2 y hy x hx e.symm⟩, fun b hb => hn b ?_⟩
  rcases List.mem_append.1 hb with hb | hb <;> simp [hb]
theorem Sep.drop (s : Sep a h (L ++ M)) : Sep a h M := by
  obtain ⟨e0, fp, s, hd, hn⟩ := s
  obtain ⟨f, g, rfl, s1, s2⟩ := s.split
  exact ⟨e0, g, s2, (List.nodup_append.1 hd).2.1, fun b hb => hn b (by simp [hb])⟩
theorem Sep.keep (s : Sep a h (L ++ M)) : Sep a h L := s.comm.drop
theorem Sep.tail {x : Asr} (s : Sep a h (x :: L)) : Sep a h L := Sep.drop (L := [x]) s
theorem Sep.head {x : Asr} (s : Sep a h (x :: L)) : Sep a h [x] := Sep.keep (L := [x]) s
theorem Sep.swap {x y : Asr} (s : Sep a h (x :: y :: L)) : Sep a h (y :: x :: L) := by
  obtain ⟨e0, fp, ⟨f1, g1, rfl, h1, f2, g2, rfl, h2, s⟩, hd, hn⟩ := s
  have hp : (f2 ++ (f1 ++ g2)).Perm (f1 ++ (f2 ++ g2)) := by
    rw [← List.append_assoc, ← List.append_assoc]
    exact List.Perm.append_right _ List.perm_append_comm
  exact ⟨e0, f2 ++ (f1 ++ g2), ⟨f2, f1 ++ g2, rfl, h2, f1, g2, rfl, h1, s⟩, hp.nodup_iff.2 hd, fun b hb => hn b (hp.mem_iff.1 hb)⟩
/-- One piece, told in another way. -/
theorem Sep.to {x y : Asr} (s : Sep a h (x :: L)) (f : ∀ fp, x.holds h fp → fp.Nodup → ∃ fp', y.holds h fp' ∧ fp'.Nodup ∧ ∀ b ∈ fp', b ∈ fp) : Sep a h (y :: L) := by
  obtain ⟨e0, fp, ⟨f1, g1, rfl, h1, s⟩, hd, hn⟩ := s
  have hd' := List.nodup_append.1 hd
  obtain ⟨f2, h2, hd2, hs⟩ := f f1 h1 hd'.1
  exact ⟨e0, f2 ++ g1, ⟨f2, g1, rfl, h2, s⟩, List.nodup_append.2 ⟨hd2, hd'.2.1, fun x hx y hy e => hd'.2.2 x (hs x hx) y hy e⟩, fun b hb => by
    rcases List.mem_append.1 hb with hb | hb
    · exact hn b (by simp [hs b hb])
    · exact hn b (by simp [hb])⟩
theorem Sep.get {x : Asr} (s : Sep a h (x :: L)) : ∃ fp, x.holds h fp ∧ fp.Nodup ∧ ∀ b ∈ fp, a.length ≤ b ∧ rwB h b := by
  obtain ⟨e0, fp, ⟨f1, g1, rfl, h1, s⟩, hd, hn⟩ := s
  exact ⟨f1, h1, (List.nodup_append.1 hd).1, fun b hb => hn b (by simp [hb])⟩
/-- A piece that takes no block. -/
theorem Sep.flat {x : Asr} (s : Sep a h L) (hx : x.holds h []) : Sep a h (x :: L) := by
  obtain ⟨e0, fp, s, hd, hn⟩ := s
  exact ⟨e0, fp, ⟨[], fp, rfl, hx, s⟩, hd, hn⟩
theorem Sep.both {x y : Asr} (s : Sep a h (x :: y :: L)) : Sep a h (bothA x y :: L) := by
  obtain ⟨e0, fp, ⟨f1, g1, rfl, h1, f2, g2, rfl, h2, s⟩, hd, hn⟩ := s
  exact ⟨e0, f1 ++ (f2 ++ g2), ⟨f1 ++ f2, g2, by simp, ⟨f1, f2, rfl, h1, h2⟩, s⟩, hd, hn⟩
theorem Sep.unboth {x y : Asr} (s : Sep a h (bothA x y :: L)) : Sep a h (x :: y :: L) := by
  obtain ⟨e0, fp, ⟨f1, g1, rfl, ⟨f, g, rfl, h1, h2⟩, s⟩, hd, hn⟩ := s
  exact ⟨e0, (f ++ g) ++ g1, ⟨f, g ++ g1, by simp, h1, g, g1, rfl, h2, s⟩, hd, hn⟩
/-- One piece is made anew; the others stay. -/
theorem Sep.put {x y : Asr} (s : Sep a h (x :: L)) (hx : ∀ fp, x.holds h fp → fp.Nodup → (∀ b ∈ fp, rwB h b) → ∃ f', y.holds h' f' ∧ f'.Nodup ∧ Chg fp h h' ∧ ∀ b ∈ f', (b ∈ fp ∨ h.length ≤ b) ∧ rwB h' b) : Sep a h' (y :: L) := by
  obtain ⟨e0, fp, ⟨f1, g1, rfl, h1, s⟩, hd, hn⟩ := s
  have hd' := List.nodup_append.1 hd
  obtain ⟨f2, h2, hd2, hc, hb2⟩ := hx f1 h1 hd'.1 fun b hb => (hn b (by simp [hb])).2
  have hg : ∀ b ∈ g1, getB h' b = getB h b := fun b hb => hc.eq b (s.live b hb) fun hm => hd'.2.2 b hm b hb rfl
  refine ⟨hc.ext e0 fun b hb => (hn b (by simp [hb])).1, f2 ++ g1, ⟨f2, g1, rfl, h2, s.frame hg⟩, List.nodup_append.2 ⟨hd2, hd'.2.1, fun x hx y hy e => ?_⟩, fun b hb => ?_⟩
  · subst e
    rcases (hb2 x hx).1 with h3 | h3
    · exact hd'.2.2 x h3 x hy rfl
    · have := s.live x hy; omega
  · rcases List.mem_append.1 hb with hb | hb
    · rcases (hb2 b hb).1 with h3 | h3
      · exact ⟨(hn b (by simp [h3])).1, (hb2 b hb).2⟩
      · exact ⟨Nat.le_trans e0.le h3, (hb2 b hb).2⟩
    · exact ⟨(hn b (by simp [hb])).1, (hn b (by simp [hb])).2.of (hg b hb)⟩
end

section
variable {α : Type} [Rep α] {a h h' : Heap} {L : List Asr} {el : TypeId} {l : List α} {v : Value} {x y : α} {cs : List Value}
theorem Sep.row (s : Sep a h (ownA el l v :: L)) : Row h l v := by obtain ⟨fp, o, _⟩ := s.get; exact Own.toRow o
theorem Sep.here (s : Sep a h (repA x cs :: L)) : Here h x cs := by obtain ⟨fp, o, _⟩ := s.get; exact ⟨fp, o⟩
theorem Sep.rowR (s : Sep a h (repA l [v] :: L)) : Row h l v := by
  obtain ⟨fp, ⟨v', e, o⟩, _⟩ := s.get
  obtain rfl : v = v' := by simpa using e
  exact ⟨fp, o⟩
theorem Sep.toRep (s : Sep a h (ownA el l v :: L)) : Sep a h (repA l [v] :: L) := s.to fun fp o hd => ⟨fp, ⟨v, rfl, Own.row o⟩, hd, fun _ h => h⟩
theorem Sep.nilA (s : Sep a h L) (el : TypeId) : Sep a h (ownA (α := α) el [] (.slice none 0 0) :: L) := s.flat (Own.nil el h)
theorem Sep.rep0 (s : Sep a h L) (hr : Rep.rep h x cs []) : Sep a h (repA x cs :: L) := s.flat hr
theorem Sep.cut (s : Sep a h (ownA el l v :: L)) {lo m : Nat} (h1 : lo ≤ m) (h2 : m ≤ l.length) : Sep a h (ownA el ((l.take m).drop lo) (cutV v (Rep.sz α) lo m) :: L) := s.to fun fp o hd => by
  obtain ⟨fp', o', hm⟩ := Own.cut o h1 h2
  exact ⟨fp', o', o'.nodup, hm⟩

/-- append of elements that have just been built. -/
theorem sep_appends {P : Program} {t : TypeId} {k : TK} {ys : List α} {H : Heap} {idx n : Nat} {ty : TypeId} {ro ex : Bool} {K : Value → Heap → Prop}
    (s : Sep a h (ownA el l v :: cellsA ys cs :: L)) (hH : H = h ++ [some ⟨cs, ty, ro, ex⟩]) (hi : idx = h.length) (hn : ys.length = n) (ht : tElem P t = some el) (hk : tk P el = some k) (hs : k.size = Rep.sz α) (hb0 : 0 < k.bytes) (hb : (l.length + n) * k.bytes ≤ 140737488355328)
    (next : ∀ v' h', Sep a h' (ownA el (l ++ ys) v' :: L) → K v' h') : optH (appendV P t v (.slice (some ⟨idx, 0, none⟩) n n) H) K := by
  subst hH; subst hi; subst hn
  have hle : l.length + ys.length ≤ 140737488355328 := Nat.le_trans (Nat.le_mul_of_pos_right _ hb0) hb
  have s' := s.mono (Ext.one h (some ⟨cs, ty, ro, ex⟩))
  have hw : lenV (.slice (some ⟨h.length, 0, none⟩) ys.length ys.length) = some ys.length := rfl
  -- what append comes to, for these blocks
  obtain ⟨fp, ⟨f1, f2, rfl, h1, fps, hc, rfl⟩, hd, hrw⟩ := s'.both.get
  have hx1 := hc.length.1
  obtain ⟨v', h', fp', e, _, _, _⟩ := own_append2 h1 ht hk hs hw (by rw [rowV_cells (cellsAt_of getB_append_new (by simp only []; omega))]; simp [List.take_of_length_le (Nat.le_of_eq hx1)]) hc hd hb (by omega)
  rw [e]
  refine next v' h' (s'.both.put ?_)
  rintro fp ⟨f1, f2, rfl, h1, fps, hc, rfl⟩ hd hrw
  obtain ⟨v2, h2, fp2, e2, o, c, m⟩ := own_append2 h1 ht hk hs hw (by rw [rowV_cells (cellsAt_of getB_append_new (by simp only []; omega))]; simp [List.take_of_length_le (Nat.le_of_eq hx1)]) hc hd hb (by omega)
  obtain ⟨rfl, rfl⟩ : v' = v2 ∧ h' = h2 := by rw [e] at e2; simpa using e2
  have hsub : ∀ b ∈ own1 v, b ∈ f1 ++ fps.flatten := fun b hb => by
    rcases Own.cases h1 with ⟨rfl, _, _⟩ | ⟨b', off, cap, kb, fps', rfl, _, _, _, _, _, rfl, _⟩
    · simp [own1] at hb
    · simp only [own1, List.mem_singleton] at hb; subst hb; simp
  refine ⟨fp2, o, o.nodup, ⟨c.le, fun b hb hn => c.eq b hb fun hm => hn (hsub b hm)⟩, fun b hb => ?_⟩
  rcases m b hb with ⟨rfl, h3⟩ | ⟨h3, h4⟩ | h3
  · refine ⟨h3.imp (fun h => by simp [h]) id, ?_⟩
    rcases o.own with ⟨_, rfl⟩ | ⟨k', _, hk1, hk2, _⟩
    · simp at hb
    · exact ⟨k', hk1, hk2⟩
  · exact ⟨.inl (by simp [h3]), (hrw b (by simp [h3])).of (c.eq b (hrw b (by simp [h3])).lt h4)⟩
  · have hn4 : b ∉ own1 v := fun hm => by
      have := (List.nodup_append.1 hd).2.2 b ?_ b h3 rfl
      · exact this
      · rcases Own.cases h1 with ⟨rfl, _, _⟩ | ⟨b', off, cap, kb, fps', rfl, _, _, _, _, _, rfl, _⟩
        · simp [own1] at hm
        · simp only [own1, List.mem_singleton] at hm; subst hm; simp
    exact ⟨.inl (by simp [h3]), (hrw b (by simp [h3])).of (c.eq b (hrw b (by simp [h3])).lt hn4)⟩
theorem sep_append {P : Program} {t : TypeId} {k : TK} {H : Heap} {idx : Nat} {ty : TypeId} {ro ex : Bool} {K : Value → Heap → Prop}
    (s : Sep a h (ownA el l v :: repA y cs :: L)) (hH : H = h ++ [some ⟨cs, ty, ro, ex⟩]) (hi : idx = h.length) (ht : tElem P t = some el) (hk : tk P el = some k) (hs : k.size = Rep.sz α) (hb0 : 0 < k.bytes) (hb : (l.length + 1) * k.bytes ≤ 140737488355328)
    (next : ∀ v' h', Sep a h' (ownA el (l ++ [y]) v' :: L) → K v' h') : optH (appendV P t v (.slice (some ⟨idx, 0, none⟩) 1 1) H) K :=
  sep_appends (s.swap.to (y := cellsA [y] cs) fun fp o hd => ⟨fp, ⟨[fp], Cells.one o, by simp⟩, hd, fun _ h => h⟩).swap hH hi rfl ht hk hs hb0 hb next
/-- make -/
theorem sep_make {P : Program} {t : TypeId} {k : TK} {kk kk' : IntKind} {n : Nat} (x : α) {K : Value → Heap → Prop}
    (s : Sep a h L) (ht : tElem P t = some el) (hk : tk P el = some k) (hx : ∀ h, Rep.rep h x k.zero []) (hb0 : 0 < k.bytes) (hb : n * k.bytes ≤ 140737488355328)
    (next : ∀ v h', Sep a h' (ownA el (List.replicate n x) v :: L) → rowC v = n → v ≠ .slice none 0 0 → K v h') : optH (makeSliceV P t (.int kk n) (.int kk' n) h) K := by
  refine make_row x ht hk hx hb0 hb fun v h' E o hc hv => next v h' ?_ hc hv
  refine s.add (M := [ownA el (List.replicate n x) v]) ⟨E, [h.length], ⟨[h.length], [], rfl, o, rfl⟩, o.nodup, fun b hb => ?_⟩
  simp only [List.mem_singleton] at hb
  subst hb
  rcases o.own with ⟨_, h1⟩ | ⟨k', _, hk1, hk2, _, _, hk3⟩
  · simp at h1
  · simp only [List.mem_singleton] at hk3
    exact ⟨Nat.le_refl _, k', by rw [← hk3]; exact hk1, hk2⟩
/-- One element is written. -/
theorem sep_set {i : Nat} {K : Value → Heap → Prop} (s : Sep a h (ownA el l v :: repA y cs :: L)) (hi : i < l.length)
    (next : ∀ h', Sep a h' (ownA el (l.set i y) v :: L) → K UN h') : stK (writeB h (rowB v) (rowO v + i * Rep.sz α) cs) K := by
  obtain ⟨fp, ⟨f1, f2, rfl, h1, h2⟩, hd, hrw⟩ := s.both.get
  have hdd : ∀ {f1 f2 : List Nat}, (f1 ++ f2).Nodup → ∀ b ∈ f2, b ∉ f1 := fun hd b hb hb2 => (List.nodup_append.1 hd).2.2 b hb2 b hb rfl
  obtain ⟨h', fp', e, _⟩ := own_set h1 hi h2 (hdd hd) (List.nodup_append.1 hd).2.1
  rw [e]
  refine next h' (s.both.put ?_)
  rintro fp ⟨f1, f2, rfl, h1, h2⟩ hd hrw
  obtain ⟨h3, fp3, e3, o, c, hl, m⟩ := own_set h1 hi h2 (hdd hd) (List.nodup_append.1 hd).2.1
  obtain rfl : h' = h3 := by rw [e] at e3; simpa using e3
  have hm : rowB v ∈ f1 := by
    rcases Own.cases h1 with ⟨_, rfl, _⟩ | ⟨b', off, cap, kb, fps', rfl, _, _, _, _, _, rfl, _⟩
    · simp at hi
    · simp [rowB]
  refine ⟨fp3, o, o.nodup, ⟨c.le, fun b hb hn => c.eq b hb fun h4 => hn (by simp only [List.mem_singleton] at h4; subst h4; simp [hm])⟩, fun b hb => ⟨.inl (by simpa using m b hb), ?_⟩⟩
  by_cases hb1 : b = rowB v
  · subst hb1
    rcases o.own with ⟨_, rfl⟩ | ⟨k', _, hk1, hk2, _⟩
    · simp at hb
    · exact ⟨k', hk1, hk2⟩
  · have hr := hrw b (by simpa using m b hb)
    exact hr.of (c.eq b hr.lt (by simpa using hb1))
end
end Go.V
end

section
/- The layer V, part 25: what the harness of the laws lays (lists with room behind them, at all depths), and sizes. -/
namespace Go.V
open Go Go.RowKit

/-- As the harness lays it; the first word: are empty lists nil? -/
class Giv (α : Type) [Rep α] where
  giv : Bool → Heap → α → List Value → List Nat → Prop
  frame : ∀ {b h h' x cs fp}, giv b h x cs fp → (∀ c ∈ fp, getB h' c = getB h c) → giv b h' x cs fp
  live : ∀ {b h x cs fp}, giv b h x cs fp → ∀ c ∈ fp, c < h.length
  rep : ∀ {b h x cs fp}, giv b h x cs fp → ∃ fp', Rep.rep h x cs fp' ∧ (∀ c ∈ fp', c ∈ fp) ∧ (fp.Nodup → fp'.Nodup)
  fill : α

@[reducible] def Giv.base {α : Type} [Rep α] (x : α) : Giv α where
  giv := fun _ h x cs fp => Rep.rep h x cs fp
  frame := fun h hf => Rep.frame h hf
  live := fun h => Rep.live h
  rep := fun h => ⟨_, h, fun _ h => h, id⟩
  fill := x
instance : Giv Int := Giv.base (-7000000000000000101)
instance : Giv Bool := Giv.base false
instance {α β : Type} [Rep α] [Rep β] [Giv α] [Giv β] : Giv (α × β) where
  giv := fun b h x cs fp => ∃ c1 c2 f1 f2, cs = c1 ++ c2 ∧ fp = f1 ++ f2 ∧ Giv.giv b h x.1 c1 f1 ∧ Giv.giv b h x.2 c2 f2
  frame := fun ⟨c1, c2, f1, f2, e1, e2, h1, h2⟩ hf => ⟨c1, c2, f1, f2, e1, e2, Giv.frame h1 fun b hb => hf b (by rw [e2]; simp [hb]), Giv.frame h2 fun b hb => hf b (by rw [e2]; simp [hb])⟩
  live := fun ⟨c1, c2, f1, f2, e1, e2, h1, h2⟩ b hb => by
    rw [e2] at hb
    rcases List.mem_append.1 hb with hb | hb
    · exact Giv.live h1 b hb
    · exact Giv.live h2 b hb
  rep := fun ⟨c1, c2, f1, f2, e1, e2, h1, h2⟩ => by
    obtain ⟨g1, r1, s1, n1⟩ := Giv.rep h1
    obtain ⟨g2, r2, s2, n2⟩ := Giv.rep h2
    refine ⟨g1 ++ g2, ⟨c1, c2, g1, g2, e1, rfl, r1, r2⟩, fun c hc => ?_, fun hd => ?_⟩
    · rw [e2]
      rcases List.mem_append.1 hc with hc | hc
      · simp [s1 c hc]
      · simp [s2 c hc]
    · rw [e2] at hd
      have hd' := List.nodup_append.1 hd
      exact List.nodup_append.2 ⟨n1 hd'.1, n2 hd'.2.1, fun x hx y hy e => hd'.2.2 x (s1 x hx) y (s2 y hy) e⟩
  fill := (Giv.fill, Giv.fill)
@[reducible] def Giv.iso {α β : Type} [Rep α] [Giv α] (f : β → α) (x : β) : @Giv β (Rep.iso f) :=
  letI := Rep.iso f
  { giv := fun b h x cs fp => Giv.giv b h (f x) cs fp
    frame := fun h hf => Giv.frame h hf
    live := fun h => Giv.live h
    rep := fun {b h y cs fp} hr => Giv.rep (x := f y) hr
    fill := x }

/-- One that the harness has laid, or a plain one. -/
structure Gd (bare : Bool) (α : Type) where
  given : Bool
  x : α
instance {bare : Bool} {α : Type} [Rep α] [Giv α] : Rep (Gd bare α) where
  sz := Rep.sz α
  rep := fun h g cs fp => if g.given = true then Giv.giv bare h g.x cs fp else Rep.rep h g.x cs fp
  len := fun {h g cs fp} hr => by
    split at hr
    · obtain ⟨fp', r, _⟩ := Giv.rep hr
      exact Rep.len r
    · exact Rep.len hr
  frame := fun {h h' g cs fp} hr hf => by
    split at hr
    · rename_i c; rw [if_pos c]; exact Giv.frame hr hf
    · rename_i c; rw [if_neg c]; exact Rep.frame hr hf
  live := fun {h g cs fp} hr => by
    split at hr
    · exact Giv.live hr
    · exact Rep.live hr
theorem Gd.sz {bare : Bool} {α : Type} [Rep α] [Giv α] : Rep.sz (Gd bare α) = Rep.sz α := rfl
theorem Gd.toRep {bare : Bool} {α : Type} [Rep α] [Giv α] {h : Heap} {g : Gd bare α} {cs : List Value} {fp : List Nat} (hr : Rep.rep h g cs fp) : ∃ fp', Rep.rep h g.x cs fp' ∧ (∀ c ∈ fp', c ∈ fp) ∧ (fp.Nodup → fp'.Nodup) := by
  have hr' : if g.given = true then Giv.giv bare h g.x cs fp else Rep.rep h g.x cs fp := hr
  split at hr'
  · exact Giv.rep hr'
  · exact ⟨fp, hr', fun _ h => h, id⟩
theorem Gd.toCells {bare : Bool} {α : Type} [Rep α] [Giv α] {h : Heap} : ∀ {l : List (Gd bare α)} {cs : List Value} {fps : List (List Nat)}, Cells h l cs fps → ∃ gps, Cells h (l.map (·.x)) cs gps ∧ (∀ c ∈ gps.flatten, c ∈ fps.flatten) ∧ (fps.flatten.Nodup → gps.flatten.Nodup) := by
  intro l
  induction l with
  | nil => rintro cs fps ⟨rfl, rfl⟩; exact ⟨[], ⟨rfl, rfl⟩, by simp, by simp⟩
  | cons g l ih =>
    rintro cs fps ⟨c, f, cs', fps', rfl, rfl, hr, hc⟩
    obtain ⟨f2, r2, s2, n2⟩ := Gd.toRep hr
    obtain ⟨gps, c3, s3, n3⟩ := ih hc
    refine ⟨f2 :: gps, ⟨c, f2, cs', gps, rfl, rfl, r2, c3⟩, fun x hx => ?_, fun hd => ?_⟩
    · rw [List.flatten_cons] at hx ⊢
      rcases List.mem_append.1 hx with hx | hx
      · exact List.mem_append_left _ (s2 x hx)
      · exact List.mem_append_right _ (s3 x hx)
    · rw [List.flatten_cons] at hd ⊢
      have hd' := List.nodup_append.1 hd
      exact List.nodup_append.2 ⟨n2 hd'.1, n3 hd'.2.1, fun x hx y hy e => hd'.2.2 x (s2 x hx) y (s3 y hy) e⟩
theorem Gd.toRow {bare : Bool} {α : Type} [Rep α] [Giv α] {h : Heap} {l : List (Gd bare α)} {v : Value} {fp : List Nat} (hr : rowRep h l v fp) : ∃ fp', rowRep h (l.map (·.x)) v fp' ∧ (∀ c ∈ fp', c ∈ fp) ∧ (fp.Nodup → fp'.Nodup) := by
  obtain ⟨h1, h2, h3⟩ := hr
  rcases h3 with ⟨rfl, rfl⟩ | ⟨cs, fps, hne, hc, rfl, hcs⟩
  · exact ⟨[], ⟨h1, h2, .inl ⟨rfl, rfl⟩⟩, by simp, by simp⟩
  · obtain ⟨gps, c3, s3, n3⟩ := Gd.toCells hcs
    refine ⟨rowB v :: gps.flatten, ⟨by simpa using h1, by simpa using h2, .inr ⟨cs, gps, hne, by rw [List.length_map]; exact hc, rfl, c3⟩⟩, fun c hx => ?_, fun hd => ?_⟩
    · rcases List.mem_cons.1 hx with rfl | hx
      · simp
      · exact List.mem_cons_of_mem _ (s3 c hx)
    · have hd' := List.nodup_cons.1 hd
      exact List.nodup_cons.2 ⟨fun hm => hd'.1 (s3 _ hm), n3 hd'.2⟩
theorem Gd.row {bare : Bool} {α : Type} [Rep α] [Giv α] {h : Heap} {l : List (Gd bare α)} {v : Value} (hr : Row h l v) : Row h (l.map (·.x)) v := by
  obtain ⟨fp, hr⟩ := hr
  obtain ⟨fp', r, _⟩ := Gd.toRow hr
  exact ⟨fp', r⟩

/-- All that the harness lays for a list. -/
def gdAll (bare : Bool) {α : Type} [Rep α] [Giv α] (l : List α) : List (Gd bare α) := l.map (fun x => ⟨true, x⟩) ++ List.replicate (roomM l.length) ⟨false, Giv.fill⟩
theorem gdAll_x {bare : Bool} {α : Type} [Rep α] [Giv α] (l : List α) : (gdAll bare l).map (·.x) = l ++ List.replicate (roomM l.length) Giv.fill := by
  simp [gdAll, Function.comp_def]
theorem gdAll_length {bare : Bool} {α : Type} [Rep α] [Giv α] (l : List α) : (gdAll bare l).length = l.length + roomM l.length := by simp [gdAll]
theorem gdAll_take {bare : Bool} {α : Type} [Rep α] [Giv α] (l : List α) : (gdAll bare l).take l.length = l.map (fun x => ⟨true, x⟩) := by
  unfold gdAll; rw [List.take_left' (by simp)]
def givL (bare : Bool) {α : Type} [Rep α] [Giv α] (h : Heap) (l : List α) (v : Value) (fp : List Nat) : Prop :=
  (bare = true ∧ l = [] ∧ v = .slice none 0 0 ∧ fp = []) ∨ ∃ vf el, Own el h (gdAll bare l) vf fp ∧ v = cutV vf (Rep.sz α) 0 l.length ∧ rowC vf = l.length + roomM l.length
theorem givL.row {bare : Bool} {α : Type} [Rep α] [Giv α] {h : Heap} {l : List α} {v : Value} {fp : List Nat} (g : givL bare h l v fp) : ∃ fp', rowRep h l v fp' ∧ (∀ c ∈ fp', c ∈ fp) ∧ (fp.Nodup → fp'.Nodup) := by
  rcases g with ⟨_, rfl, rfl, rfl⟩ | ⟨vf, el, o, rfl, hc⟩
  · exact ⟨[], ⟨.inl ⟨rfl, rfl⟩, by simp, .inl ⟨rfl, rfl⟩⟩, by simp, by simp⟩
  · obtain ⟨f1, r1, s1, n1⟩ := Gd.toRow o.row
    rw [gdAll_x] at r1
    obtain ⟨f2, r2, s2, n2⟩ := r1.cut (lo := 0) (m := l.length) (Nat.zero_le _) (by simp)
    rw [List.take_left' rfl, List.drop_zero] at r2
    exact ⟨f2, r2, fun c hc => s1 c (s2 c hc), fun hd => n2 (n1 hd)⟩
instance {α : Type} [Rep α] [Giv α] : Giv (List α) where
  giv := fun b h l cs fp => ∃ v, cs = [v] ∧ givL b h l v fp
  frame := fun {b h h' l cs fp} ⟨v, e, g⟩ hf => ⟨v, e, by
    rcases g with g | ⟨vf, el, o, g⟩
    · exact .inl g
    · exact .inr ⟨vf, el, o.frame hf, g⟩⟩
  live := fun {b h l cs fp} ⟨v, e, g⟩ c hc => by
    rcases g with ⟨_, _, _, rfl⟩ | ⟨vf, el, o, g⟩
    · simp at hc
    · exact o.live c hc
  rep := fun {b h l cs fp} ⟨v, e, g⟩ => by
    obtain ⟨f, r, s⟩ := g.row
    exact ⟨f, ⟨v, e, r⟩, s⟩
  fill := [Giv.fill]

def givA (bare : Bool) {α : Type} [Rep α] [Giv α] (x : α) (cs : List Value) : Asr := ⟨fun h fp => Giv.giv bare h x cs fp, fun o hf => Giv.frame o hf, fun o => Giv.live o⟩
/-- As the harness laid it; where it lies doesn't matter. -/
def GivH {α : Type} [Rep α] [Giv α] (h : Heap) (x : α) (cs : List Value) : Prop := ∃ fp, Giv.giv false h x cs fp
section
variable {α : Type} [Rep α] [Giv α] {bare : Bool} {a h h' : Heap} {L : List Asr} {x : α} {l : List α} {cs : List Value} {v : Value}
theorem Sep.gRep (s : Sep a h (givA bare x cs :: L)) : Sep a h (repA x cs :: L) := s.to fun fp o hd => by
  obtain ⟨f, r, s, n⟩ := Giv.rep o
  exact ⟨f, r, n hd, s⟩
theorem Sep.gHere (s : Sep a h (givA bare x cs :: L)) : Here h x cs := s.gRep.here
theorem Sep.gGiv (s : Sep a h (givA false x cs :: L)) : GivH h x cs := by obtain ⟨fp, o, _⟩ := s.get; exact ⟨fp, o⟩
theorem GivH.mono (g : GivH h x cs) (e : Ext h h') : GivH h' x cs := by obtain ⟨fp, o⟩ := g; exact ⟨fp, Giv.frame o fun b hb => e.eq b (Giv.live o b hb)⟩
theorem GivH.here (g : GivH h x cs) : Here h x cs := by obtain ⟨fp, o⟩ := g; obtain ⟨f, r, _⟩ := Giv.rep o; exact ⟨f, r⟩
theorem Sep.gGd (s : Sep a h (givA bare x cs :: L)) : Sep a h (repA (⟨true, x⟩ : Gd bare α) cs :: L) := s.to fun fp o hd => ⟨fp, by show (if True then Giv.giv bare h x cs fp else Rep.rep h x cs fp); rw [if_pos trivial]; exact o, hd, fun _ h => h⟩
theorem Sep.rGd (s : Sep a h (repA x cs :: L)) : Sep a h (repA (⟨false, x⟩ : Gd bare α) cs :: L) := s.to fun fp o hd => ⟨fp, o, hd, fun _ h => h⟩
/-- What the harness has laid, whole. -/
theorem Sep.givL {el : TypeId} {vf : Value} (s : Sep a h (ownA el (gdAll bare l) vf :: L)) (hc : rowC vf = l.length + roomM l.length) : Sep a h (givA bare l [cutV vf (Rep.sz α) 0 l.length] :: L) :=
  s.to fun fp o hd => ⟨fp, ⟨_, rfl, .inr ⟨vf, el, o, rfl, hc⟩⟩, hd, fun _ h => h⟩
theorem Sep.givNil (e : Ext a h) : Sep a h [givA true ([] : List α) [.slice none 0 0]] := (Sep.nil e).flat ⟨_, rfl, .inl ⟨rfl, rfl, rfl, rfl⟩⟩

/-- A list as the harness laid it: all its room, and each element. -/
theorem GivH.all (g : GivH h l [v]) : rowC v = l.length + roomM l.length ∧ Row h (gdAll false l) (cutV v (Rep.sz α) 0 (l.length + roomM l.length)) := by
  obtain ⟨fp, v', e, g⟩ := g
  obtain rfl : v = v' := by simpa using e
  rcases g with ⟨h1, _⟩ | ⟨vf, el, o, rfl, hc⟩
  · simp at h1
  · have hr := o.toRow.cut (lo := 0) (m := l.length + roomM l.length) (Nat.zero_le _) (by rw [gdAll_length]; omega)
    rw [List.take_of_length_le (Nat.le_of_eq (gdAll_length l)), List.drop_zero] at hr
    rcases o.isRow with ⟨rfl, hn⟩ | ⟨b, off, cap, rfl, hle⟩
    · simp only [rowC] at hc
      exact ⟨by simp only [cutV, rowC]; omega, by simpa [cutV] using hr⟩
    · simp only [rowC] at hc
      exact ⟨by simp only [cutV, rowC]; omega, by simpa [cutV] using hr⟩
theorem GivH.row (g : GivH h l [v]) : Row h l v := by
  obtain ⟨fp, v', e, g⟩ := g
  obtain rfl : v = v' := by simpa using e
  obtain ⟨f, r, _⟩ := g.row
  exact ⟨f, r⟩
theorem GivH.at (g : GivH h l [v]) {i : Nat} {y : α} (hy : l[i]? = some y) : ∃ xs, cellsAt h (rowB v) (rowO v + i * Rep.sz α) (Rep.sz α) = some xs ∧ GivH h y xs := by
  obtain ⟨fp, v', e, g⟩ := g
  obtain rfl : v = v' := by simpa using e
  have hi := (List.getElem?_eq_some_iff.1 hy).1
  rcases g with ⟨h1, _⟩ | ⟨vf, el, o, rfl, hc⟩
  · simp at h1
  · have hr := o.toRow.cut (lo := 0) (m := l.length) (Nat.zero_le _) (by rw [gdAll_length]; omega)
    rw [gdAll_take, List.drop_zero] at hr
    obtain ⟨xs, h1, fp', h2⟩ := hr.at (i := i) (x := ⟨true, y⟩) (by simp [hy])
    refine ⟨xs, h1, fp', ?_⟩
    have h3 : if True then Giv.giv false h y xs fp' else Rep.rep h y xs fp' := h2
    rwa [if_pos trivial] at h3
end

/-- How many cells and letters the harness counts. -/
class Siz (α : Type) where
  siz : α → Nat
instance : Siz Int := ⟨fun _ => 0⟩
instance : Siz Bool := ⟨fun _ => 0⟩
instance : Siz ByteArray := ⟨fun x => x.size⟩
instance {α : Type} [Siz α] : Siz (List α) := ⟨fun l => l.length + (l.map Siz.siz).sum⟩
def szR (left : Int) (n : Nat) : Int := if left < n then -1 else left - n
theorem siz_list {α : Type} [Siz α] (l : List α) : Siz.siz l = l.length + (l.map Siz.siz).sum := rfl
theorem siz_mem {α : Type} [Siz α] {l : List α} {i : Nat} {x : α} (hx : l[i]? = some x) : Siz.siz x ≤ (l.map Siz.siz).sum := by
  induction l generalizing i with
  | nil => simp at hx
  | cons y l ih =>
    cases i with
    | zero => simp at hx; subst hx; simp
    | succ i => have := ih (i := i) (by simpa using hx); simp; omega
theorem siz_take {α : Type} [Siz α] {l : List α} {i : Nat} {x : α} (hx : l[i]? = some x) : ((l.take (i + 1)).map Siz.siz).sum = ((l.take i).map Siz.siz).sum + Siz.siz x := by
  rw [List.take_add_one, hx]; simp
theorem siz_take_le {α : Type} [Siz α] (l : List α) (i : Nat) : ((l.take i).map Siz.siz).sum ≤ (l.map Siz.siz).sum := by
  have : (l.map Siz.siz).sum = ((l.take i).map Siz.siz).sum + ((l.drop i).map Siz.siz).sum := by
    rw [← List.sum_append, ← List.map_append, List.take_append_drop]
  omega
theorem siz_zero {α : Type} [Siz α] (h : ∀ x : α, Siz.siz x = 0) (l : List α) : Siz.siz l = l.length := by
  rw [siz_list]
  have : (l.map Siz.siz).sum = 0 := by
    induction l with
    | nil => rfl
    | cons y l ih => simp [h, ih]
  omega
/-- The lists that the loops of the harness go through. -/
theorem gd_one {bare : Bool} {α : Type} {l : List α} {i m : Nat} {x z : α} (hx : l[i]? = some x) : ((l.take i).map (fun x => (⟨true, x⟩ : Gd bare α)) ++ List.replicate (m + 1) (⟨false, z⟩ : Gd bare α)).set i (⟨true, x⟩ : Gd bare α) = (l.take (i + 1)).map (fun x => (⟨true, x⟩ : Gd bare α)) ++ List.replicate m (⟨false, z⟩ : Gd bare α) := by
  have := fill_one (l := l.map (fun x => (⟨true, x⟩ : Gd bare α))) (i := i) (m := m) (x := (⟨true, x⟩ : Gd bare α)) (z := (⟨false, z⟩ : Gd bare α)) (by simp [hx])
  simpa only [List.map_take] using this
theorem gd_two {bare : Bool} {α : Type} {l : List α} {j m : Nat} {f z : α} : (l.map (fun x => (⟨true, x⟩ : Gd bare α)) ++ List.replicate j (⟨false, f⟩ : Gd bare α) ++ List.replicate (m + 1) (⟨false, z⟩ : Gd bare α)).set (l.length + j) (⟨false, f⟩ : Gd bare α) = l.map (fun x => (⟨true, x⟩ : Gd bare α)) ++ List.replicate (j + 1) (⟨false, f⟩ : Gd bare α) ++ List.replicate m (⟨false, z⟩ : Gd bare α) := by
  have := fill_two (l := l.map (fun x => (⟨true, x⟩ : Gd bare α))) (j := j) (m := m) (f := (⟨false, f⟩ : Gd bare α)) (z := (⟨false, z⟩ : Gd bare α))
  simpa using this

theorem szR_lt {left : Int} {n : Nat} (c : left < n) : szR left n = -1 := if_pos c
theorem szR_ge {left : Int} {n : Nat} (c : ¬ left < n) : szR left n = left - n := if_neg c

/-! ### blocks of this function's own -/
def blkA (b : Nat) (cs : List Value) (ty : TypeId) : Asr := ⟨fun h fp => fp = [b] ∧ ∃ ex, getB h b = some ⟨cs, ty, false, ex⟩,
  fun ⟨e, ex, hg⟩ hf => ⟨e, ex, (hf b (by rw [e]; simp)).trans hg⟩, fun ⟨e, ex, hg⟩ c hc => by rw [e] at hc; simp only [List.mem_singleton] at hc; subst hc; exact getB_lt hg⟩
section
variable {a h h' : Heap} {L : List Asr} {b : Nat} {cs : List Value} {ty : TypeId}
theorem Sep.newBlk (s : Sep a h L) (cs : List Value) (ty : TypeId) (ex : Bool) : Sep a (h ++ [some ⟨cs, ty, false, ex⟩]) (blkA h.length cs ty :: L) :=
  s.add (M := [blkA h.length cs ty]) ⟨.one _ _, [h.length], ⟨[h.length], [], rfl, ⟨rfl, ex, getB_append_new⟩, rfl⟩, by simp, fun b hb => by
    simp only [List.mem_singleton] at hb
    subst hb
    exact ⟨Nat.le_refl _, _, getB_append_new, rfl⟩⟩
theorem Sep.blk1 (h : Heap) (c1 : List Value) (t1 : TypeId) (x1 : Bool) : Sep h (h ++ [some ⟨c1, t1, false, x1⟩]) [blkA h.length c1 t1] := (Sep.nil (.refl h)).newBlk c1 t1 x1
theorem Sep.blk2 (h : Heap) (c1 c2 : List Value) (t1 t2 : TypeId) (x1 x2 : Bool) : Sep h (h ++ [some ⟨c1, t1, false, x1⟩, some ⟨c2, t2, false, x2⟩]) [blkA (h.length + 1) c2 t2, blkA h.length c1 t1] := by
  have := (Sep.blk1 h c1 t1 x1).newBlk c2 t2 x2
  simpa using this
theorem Sep.blk3 (h : Heap) (c1 c2 c3 : List Value) (t1 t2 t3 : TypeId) (x1 x2 x3 : Bool) : Sep h (h ++ [some ⟨c1, t1, false, x1⟩, some ⟨c2, t2, false, x2⟩, some ⟨c3, t3, false, x3⟩]) [blkA (h.length + 2) c3 t3, blkA (h.length + 1) c2 t2, blkA h.length c1 t1] := by
  have := (Sep.blk2 h c1 c2 t1 t2 x1 x2).newBlk c3 t3 x3
  simpa using this
theorem Sep.pull (s : Sep a h L) (i : Nat) {x : Asr} (hx : L[i]? = some x) : Sep a h (x :: L.eraseIdx i) := by
  obtain ⟨e0, fp, s, hd, hn⟩ := s
  obtain ⟨fp', s', hp⟩ : ∃ fp', SepF h (x :: L.eraseIdx i) fp' ∧ fp'.Perm fp := by
    clear hd hn e0
    induction L generalizing i fp with
    | nil => simp at hx
    | cons y L ih =>
      obtain ⟨f, g, rfl, hy, s⟩ := s
      cases i with
      | zero =>
        obtain rfl : y = x := by simpa using hx
        exact ⟨f ++ g, ⟨f, g, rfl, hy, s⟩, List.Perm.refl _⟩
      | succ i =>
        obtain ⟨fp', ⟨f2, g2, rfl, hx2, s2⟩, hp⟩ := ih i (by simpa using hx) g s
        refine ⟨f2 ++ (f ++ g2), ⟨f2, f ++ g2, rfl, hx2, f, g2, rfl, hy, s2⟩, ?_⟩
        have h1 : (f2 ++ (f ++ g2)).Perm (f ++ (f2 ++ g2)) := by
          rw [← List.append_assoc, ← List.append_assoc]
          exact List.Perm.append_right _ List.perm_append_comm
        exact h1.trans (List.Perm.append_left _ hp)
  exact ⟨e0, fp', s', hp.nodup_iff.2 hd, fun b hb => hn b (hp.mem_iff.1 hb)⟩
theorem Sep.blk (s : Sep a h (blkA b cs ty :: L)) : ∃ ex, getB h b = some ⟨cs, ty, false, ex⟩ := by obtain ⟨fp, ⟨_, o⟩, _⟩ := s.get; exact o
theorem Sep.rd (s : Sep a h (blkA b cs ty :: L)) (off : Nat) : getC h b off = cs[off]? := by
  obtain ⟨ex, o⟩ := s.blk
  unfold getC; rw [o]; rfl
theorem Sep.rdA (s : Sep a h (blkA b cs ty :: L)) (off n : Nat) : cellsAt h b off n = if off + n ≤ cs.length then some ((cs.drop off).take n) else none := by
  obtain ⟨ex, o⟩ := s.blk
  unfold cellsAt; rw [o]
theorem sep_store {off : Nat} {ds : List Value} {K : Value → Heap → Prop} (s : Sep a h (blkA b cs ty :: L)) (hl : off + ds.length ≤ cs.length)
    (next : ∀ h', Sep a h' (blkA b (putCells cs off ds) ty :: L) → K UN h') : stK (writeB h b off ds) K := by
  obtain ⟨ex, o⟩ := s.blk
  have hw : writeB h b off ds = some (h.set b (some ⟨putCells cs off ds, ty, false, ex⟩)) := by
    simp only [writeB, o, Bool.not_false, Bool.true_and, decide_eq_true hl, if_true]
  have hg : getB (h.set b (some ⟨putCells cs off ds, ty, false, ex⟩)) b = some ⟨putCells cs off ds, ty, false, ex⟩ := by rw [getB_set (getB_lt o), if_pos rfl]
  rw [hw]
  refine next _ (s.put ?_)
  rintro fp ⟨rfl, _⟩ _ _
  refine ⟨[b], ⟨rfl, ex, hg⟩, by simp, ⟨by simp, fun c _ hc => by rw [getB_set (getB_lt o), if_neg (by simpa using hc)]⟩, fun c hc => ?_⟩
  simp only [List.mem_singleton] at hc
  subst hc
  exact ⟨.inl (by simp), _, hg, rfl⟩
end
section
variable {α β : Type} [Rep α] [Rep β] {a h : Heap} {L : List Asr} {x : α} {y : β} {c1 c2 cs : List Value}
theorem Sep.pair (s : Sep a h (repA x c1 :: repA y c2 :: L)) : Sep a h (repA (x, y) (c1 ++ c2) :: L) := s.both.to fun _ ⟨f, g, e, h1, h2⟩ hd => ⟨_, ⟨c1, c2, f, g, rfl, e, h1, h2⟩, hd, fun _ h => h⟩
theorem Sep.gpair [Giv α] [Giv β] {bare : Bool} (s : Sep a h (givA bare x c1 :: givA bare y c2 :: L)) : Sep a h (givA bare (x, y) (c1 ++ c2) :: L) := s.both.to fun _ ⟨f, g, e, h1, h2⟩ hd => ⟨_, ⟨c1, c2, f, g, rfl, e, h1, h2⟩, hd, fun _ h => h⟩
theorem Sep.unpair (s : Sep a h (repA (x, y) cs :: L)) : ∃ c1 c2, cs = c1 ++ c2 ∧ Sep a h (repA x c1 :: repA y c2 :: L) := by
  obtain ⟨fp, ⟨c1, c2, f, g, rfl, e, h1, h2⟩, _⟩ := s.get
  refine ⟨c1, c2, rfl, (s.to (y := bothA (repA x c1) (repA y c2)) ?_).unboth⟩
  rintro fp ⟨d1, d2, f, g, e1, rfl, k1, k2⟩ hd
  obtain ⟨rfl, rfl⟩ : c1 = d1 ∧ c2 = d2 := List.append_inj e1 (by rw [Rep.len h1, Rep.len k1])
  exact ⟨f ++ g, ⟨f, g, rfl, k1, k2⟩, hd, fun _ h => h⟩
theorem Sep.gpull [Giv α] {bare : Bool} (s : Sep a h (givA bare x cs :: L)) : cs.length = Rep.sz α := by obtain ⟨fp, o, _⟩ := s.gRep.get; exact Rep.len o
theorem Sep.rlen (s : Sep a h (repA x cs :: L)) : cs.length = Rep.sz α := by obtain ⟨fp, o, _⟩ := s.get; exact Rep.len o
theorem here_int {h : Heap} {n : Int} {cs : List Value} (hr : Here h n cs) : cs = [.int .i64 n] ∧ inI64 n := by obtain ⟨fp, rfl, _, h2⟩ := hr; exact ⟨rfl, h2⟩
theorem here_list {h : Heap} {n : List α} {cs : List Value} (hr : Here h n cs) : ∃ v, cs = [v] ∧ Row h n v := by obtain ⟨fp, v, rfl, h2⟩ := hr; exact ⟨v, rfl, fp, h2⟩
theorem here_pair {h : Heap} {p : α × β} {cs : List Value} (hr : Here h p cs) : ∃ c1 c2, cs = c1 ++ c2 ∧ Here h p.1 c1 ∧ Here h p.2 c2 := by
  obtain ⟨fp, c1, c2, f, g, rfl, _, h1, h2⟩ := hr; exact ⟨c1, c2, rfl, ⟨f, h1⟩, ⟨g, h2⟩⟩
theorem mk_int {h : Heap} {n : Int} (hn : inI64 n) : Here h n [.int .i64 n] := ⟨[], rfl, rfl, hn⟩
theorem mk_list {h : Heap} {n : List α} {v : Value} (hr : Row h n v) : Here h n [v] := by obtain ⟨fp, r⟩ := hr; exact ⟨fp, v, rfl, r⟩
theorem mk_pair {h : Heap} {p : α × β} (h1 : Here h p.1 c1) (h2 : Here h p.2 c2) : Here h p (c1 ++ c2) := by
  obtain ⟨f, h1⟩ := h1; obtain ⟨g, h2⟩ := h2; exact ⟨f ++ g, c1, c2, f, g, rfl, rfl, h1, h2⟩
theorem giv_pair [Giv α] [Giv β] {h : Heap} {p : α × β} {cs : List Value} (hr : GivH h p cs) : ∃ c1 c2, cs = c1 ++ c2 ∧ GivH h p.1 c1 ∧ GivH h p.2 c2 := by
  obtain ⟨fp, c1, c2, f, g, rfl, _, h1, h2⟩ := hr; exact ⟨c1, c2, rfl, ⟨f, h1⟩, ⟨g, h2⟩⟩
theorem giv_int {h : Heap} {n : Int} {cs : List Value} (hr : GivH h n cs) : cs = [.int .i64 n] ∧ inI64 n := here_int hr.here
theorem giv_list [Giv α] {h : Heap} {n : List α} {cs : List Value} (hr : GivH h n cs) : ∃ v, cs = [v] ∧ GivH h n [v] := by obtain ⟨fp, v, rfl, g⟩ := hr; exact ⟨v, rfl, fp, v, rfl, g⟩
theorem row_list {h : Heap} {l : List (List α)} {v : Value} (hr : Row h l v) {i : Nat} {x : List α} (hx : l[i]? = some x) : ∃ w, getC h (rowB v) (rowO v + i) = some w ∧ Row h x w := by
  obtain ⟨xs, hc, hh⟩ := hr.at hx
  obtain ⟨w, rfl, hw⟩ := here_list hh
  have := cellsAt_getC hc 0 (show 0 < 1 by decide)
  have e : Rep.sz (List α) = 1 := rfl
  rw [e, Nat.mul_one] at this
  exact ⟨w, this, hw⟩
theorem cells1 {h : Heap} {b off : Nat} {v : Value} (hc : cellsAt h b off 1 = some [v]) : getC h b off = some v := by have := cellsAt_getC hc 0 (by decide); simpa using this
end
section
variable {α β : Type} [Rep α] [Rep β] {a h : Heap} {L : List Asr} {el : TypeId} {l : List α} {v : Value} {y : α} {cs c1 c2 : List Value}
theorem rep_pair0 {p : α × β} (h1 : Rep.rep h p.1 c1 []) (h2 : Rep.rep h p.2 c2 []) : Rep.rep h p (c1 ++ c2) [] := ⟨c1, c2, [], [], rfl, rfl, h1, h2⟩
theorem rep_nil : Rep.rep h ([] : List α) [.slice none 0 0] [] := ⟨_, rfl, .inl ⟨rfl, rfl⟩, by simp, .inl ⟨rfl, rfl⟩⟩
theorem sep_set1 {i : Nat} {K : Value → Heap → Prop} (s : Sep a h (ownA el l v :: repA y cs :: L)) (h1 : Rep.sz α = 1) (hi : i < l.length)
    (next : ∀ h', Sep a h' (ownA el (l.set i y) v :: L) → K UN h') : stK (writeB h (rowB v) (rowO v + i) cs) K := by
  have := sep_set (K := K) s hi next
  rwa [h1, Nat.mul_one] at this
theorem Sep.rdAll {b n : Nat} {ty : TypeId} (s : Sep a h (blkA b cs ty :: L)) (hn : n = cs.length) : cellsAt h b 0 n = some cs := by
  subst hn
  rw [s.rdA, if_pos (by omega)]
  simp
end
end Go.V
end

section
/- The layer V, part 26: small laws that walks use. -/
namespace Go.V
open Go Go.RowKit

theorem drop_cons {α : Type} {l : List α} {i : Nat} {x : α} (hx : l[i]? = some x) : l.drop i = x :: l.drop (i + 1) := by
  obtain ⟨h1, rfl⟩ := List.getElem?_eq_some_iff.1 hx
  exact List.drop_eq_getElem_cons h1
theorem get_some {α : Type} {l : List α} {i : Nat} (h : i < l.length) : ∃ x, l[i]? = some x := ⟨_, List.getElem?_eq_getElem h⟩
theorem take_succ_eq {α : Type} {l m : List α} {i : Nat} {x : α} (ht : l.take i = m.take i) (hx : l[i]? = some x) (hy : m[i]? = some x) : l.take (i + 1) = m.take (i + 1) := by
  rw [List.take_add_one, List.take_add_one, ht, hx, hy]
theorem Ext.cellsAt {h h' : Heap} (e : Ext h h') {b : Nat} (hb : b < h.length) (off n : Nat) : V.cellsAt h' b off n = V.cellsAt h b off n := cellsAt_congr (e.eq b hb)
section
variable {α : Type} [Rep α] {a h h' : Heap} {l : List α} {v : Value}
/-- The block of a row that has an element lies in the heap. -/
theorem Row.blk (hl : Row h l v) {i : Nat} {x : α} (hx : l[i]? = some x) : rowB v < h.length := by
  obtain ⟨xs, hc, _⟩ := hl.at hx
  obtain ⟨k, hk, _⟩ := cellsAt_getB hc
  exact getB_lt hk
theorem row_live (hl : Row h l v) (e : Ext h h') {i : Nat} {x : α} (hx : l[i]? = some x) : rowB v < h'.length := Nat.lt_of_lt_of_le (hl.blk hx) e.le
theorem Row.tail {m a : Nat} (hr : Row h l (cutV v (Rep.sz α) 0 m)) (e : Ext h h') (hm : m = l.length) (ha : a ≤ m) : Row h' (l.drop a) (cutV v (Rep.sz α) a m) := by
  have h1 := (hr.mono e).cut (lo := a) (m := m) ha (by omega)
  rw [List.take_of_length_le (by omega)] at h1
  have : cutV (cutV v (Rep.sz α) 0 m) (Rep.sz α) a m = cutV v (Rep.sz α) a m := by
    unfold cutV
    cases v with
    | slice b n c => cases b with
      | none => rfl
      | some b => simp
    | _ => rfl
  rwa [this] at h1
end
section
variable {α : Type} [Rep α] {a h h' : Heap} {L : List Asr} {l : List α} {b n : Nat} {cs : List Value} {ty : TypeId}
theorem Sep.as {ds : List Value} (s : Sep a h (blkA b cs ty :: L)) (e : cs = ds) : Sep a h (blkA b ds ty :: L) := e ▸ s
/-- A block that holds a whole list. -/
theorem Sep.blkRow (s : Sep a h (blkA b cs ty :: L)) (hc : ∃ fps, Cells h l cs fps ∧ fps.flatten = []) (hn : n = l.length) (hle : n ≤ 9223372036854775807) : Sep a h (repA l [.slice (some ⟨b, 0, none⟩) n n] :: L) := s.to fun fp ⟨e, ex, o⟩ hd => by
  obtain ⟨fps, hc, hf⟩ := hc
  subst hn
  have hl := hc.length.1
  by_cases h0 : l = []
  · subst h0
    exact ⟨[], ⟨_, rfl, .inr ⟨_, _, _, rfl, Nat.le_refl _⟩, by simp, .inl ⟨rfl, rfl⟩⟩, by simp, by simp⟩
  · have hcc : cellsAt h b 0 (l.length * Rep.sz α) = some cs := by
      rw [cellsAt_of o (by simp only []; omega)]
      simp [List.take_of_length_le (Nat.le_of_eq hl)]
    exact ⟨fp, ⟨_, rfl, .inr ⟨_, _, _, rfl, Nat.le_refl _⟩, hle, .inr ⟨cs, fps, by simp, hcc, by rw [e, hf]; rfl, hc⟩⟩, hd, fun _ h => h⟩
end

/-- A thing that lies where a pointer points. -/
def At {α : Type} [Rep α] (h : Heap) (b off : Nat) (x : α) : Prop := ∃ cs, cellsAt h b off (Rep.sz α) = some cs ∧ Here h x cs
section
variable {α : Type} [Rep α] {a h h' : Heap} {L : List Asr} {l : List α} {v : Value} {x : α} {b off : Nat} {cs : List Value} {ty : TypeId}
theorem At.mono (p : At h b off x) (hb : b < h.length) (e : Ext h h') : At h' b off x := by
  obtain ⟨cs, h1, h2⟩ := p; exact ⟨cs, (e.cellsAt hb off _).trans h1, h2.mono e⟩
theorem Row.ptr (hl : Row h l v) {i : Nat} (hx : l[i]? = some x) : At h (rowB v) (rowO v + i * Rep.sz α) x := hl.at hx
/-- A block of one's own that holds an x. -/
theorem Sep.ptr (s : Sep a h (blkA b cs ty :: L)) (hc : Here h x cs) : At h b 0 x := by
  obtain ⟨fp, hx⟩ := hc
  exact ⟨cs, s.rdAll (Rep.len hx).symm, fp, hx⟩
end

theorem zip_get {α β : Type} {l : List α} {m : List β} {i : Nat} {x : α} {y : β} (hx : l[i]? = some x) (hy : m[i]? = some y) : (l.zip m)[i]? = some (x, y) := by
  rw [List.zip, List.getElem?_zipWith, hx, hy]
theorem all_take {α : Type} {l : List α} {i : Nat} {x : α} (f : α → Bool) (hx : l[i]? = some x) : (l.take (i + 1)).all f = ((l.take i).all f && f x) := by
  rw [List.take_add_one, hx]; simp
theorem any_take {α : Type} {l : List α} {i : Nat} {x : α} (f : α → Bool) (hx : l[i]? = some x) : (l.take (i + 1)).any f = ((l.take i).any f || f x) := by
  rw [List.take_add_one, hx]; simp
theorem all_false {α : Type} {l : List α} {i : Nat} {x : α} {f : α → Bool} (hx : l[i]? = some x) (hf : f x = false) : l.all f = false := by
  rw [Bool.eq_false_iff]; intro h
  rw [List.all_eq_true] at h
  rw [h x (List.mem_of_getElem? hx)] at hf
  simp at hf
theorem any_true {α : Type} {l : List α} {i : Nat} {x : α} {f : α → Bool} (hx : l[i]? = some x) (hf : f x = true) : l.any f = true := List.any_eq_true.2 ⟨x, List.mem_of_getElem? hx, hf⟩

/-! ### conversions -/
theorem x_conv_int (P : Program) (s t : TypeId) (k : IntKind) (n : Int) (h : Heap) : convV P s t (.int k n) h = (tk P s).bind fun _ => (tInt P t).map fun k => (.int k (k.wrap n), h) := rfl
theorem x_conv_slice (P : Program) (s t : TypeId) (A : Option Addr) (n c : Nat) (h : Heap) : convV P s t (.slice A n c) h = (tElem P s).bind fun el =>
      if tInt P el = some .u8 ∧ (tk P el).map (·.size) = some 1 ∧ (tk P t).map (·.kind) = some 3 then
        (rowV h 1 n (.slice A n n)).bind fun cs => (bytesV cs).map fun bs => (.string ⟨bs.toArray⟩, h)
      else none := rfl
theorem wrapu_in (x : Int) (h : 0 ≤ x ∧ x ≤ 18446744073709551615) : IntKind.wrap .u64 x = x := by
  simp [IntKind.wrap, IntKind.bits, IntKind.signed]
  omega
def VA := And.intro @x_conv_int @x_conv_slice

theorem Here.len {α : Type} [Rep α] {h : Heap} {x : α} {cs : List Value} (hx : Here h x cs) : cs.length = Rep.sz α := by obtain ⟨fp, hx⟩ := hx; exact Rep.len hx
/-- Elements, one behind the other; where they take blocks doesn't matter. -/
def CellsE {α : Type} [Rep α] (h : Heap) (l : List α) (cs : List Value) : Prop := ∃ fps, Cells h l cs fps
section
variable {α : Type} [Rep α] {a h h' : Heap} {l : List α} {x : α} {b off n : Nat} {cs ds : List Value} {v : Value}
theorem CellsE.nil : CellsE h ([] : List α) [] := ⟨[], rfl, rfl⟩
theorem CellsE.cons (hx : Here h x cs) (hl : CellsE h l ds) : CellsE h (x :: l) (cs ++ ds) := by
  obtain ⟨f, hx⟩ := hx; obtain ⟨fps, hl⟩ := hl; exact ⟨f :: fps, cs, f, ds, fps, rfl, rfl, hx, hl⟩
theorem Row.ofBlk (hc : cellsAt h b 0 cs.length = some cs) (hl : CellsE h l cs) (hn : n = l.length) (hle : n ≤ 9223372036854775807) : Row h l (.slice (some ⟨b, 0, none⟩) n n) := by
  obtain ⟨fps, hl⟩ := hl
  have hll := hl.length.1
  subst hn
  by_cases h0 : l = []
  · subst h0
    exact ⟨[], .inr ⟨_, _, _, rfl, Nat.le_refl _⟩, by simp, .inl ⟨rfl, rfl⟩⟩
  · exact ⟨b :: fps.flatten, .inr ⟨_, _, _, rfl, Nat.le_refl _⟩, hle, .inr ⟨cs, fps, by simp, by simp only [rowB, rowO]; rw [← hll]; exact hc, rfl, hl⟩⟩
theorem getC_lt {h : Heap} {b off : Nat} {v : Value} (hg : getC h b off = some v) : b < h.length := by
  unfold getC at hg
  cases hb : getB h b with
  | none => rw [hb] at hg; simp at hg
  | some k => exact getB_lt hb
theorem Ext.keepC {h h' : Heap} (e : Ext h h') {b off : Nat} {v : Value} (hg : V.getC h b off = some v) : V.getC h' b off = some v := (e.getC (getC_lt hg) off).trans hg
theorem Ext.keepA {h h' : Heap} (e : Ext h h') {b off n : Nat} {cs : List Value} (hg : V.cellsAt h b off n = some cs) : V.cellsAt h' b off n = some cs := by
  obtain ⟨k, hk, _⟩ := cellsAt_getB hg
  exact (e.cellsAt (getB_lt hk) off n).trans hg
theorem At.lt (p : At h b off x) : b < h.length := by
  obtain ⟨cs, h1, _⟩ := p
  obtain ⟨k, hk, _⟩ := cellsAt_getB h1
  exact getB_lt hk
theorem At.ext (p : At h b off x) (e : Ext h h') : At h' b off x := p.mono p.lt e
end

/-- As this order has it. -/
theorem draw_ord {P : Program} [Laid P] {l l' : List Oper} {e : Env} {h : Heap} {K : Env → Heap → Prop} (order : List Nat) (hok : drawOk P l.toArray order = true) (hl : order.filterMap (l[·]?) = l') (hd : opsD P l.toArray l' e h [] K) : drawK P l e h K := by
  refine .inl ⟨order, hok, ?_⟩
  have : (fun x : Nat => l.toArray[x]?) = (fun x : Nat => l[x]?) := by funext x; simp
  rw [this, hl]; exact hd

/-! ### structs that came in -/
theorem Opens.cut {α β : Type} [Rep α] [Rep β] {W : World} {cs : List Value} {o a b : Nat} (h1 : Opens α W ((cs.drop o).take a)) (h2 : Opens β W ((cs.drop (o + a)).take b)) : Opens (α × β) W ((cs.drop o).take (a + b)) := by
  have := Opens.pair h1 h2
  rwa [← List.drop_drop, ← List.take_add] at this
theorem Opens.whole {α : Type} [Rep α] {W : World} {cs : List Value} {n : Nat} (hl : cs.length = n) (h1 : Opens α W ((cs.drop 0).take n)) : Opens α W cs := by
  rwa [List.drop_zero, List.take_of_length_le (Nat.le_of_eq hl)] at h1
end Go.V
end

section
/- The layer V, part 27: marks that the harness writes into what it was given, and one element of a list that is written in place. -/
namespace Go.V
open Go Go.RowKit

/-- A list in memory, but for what element i holds besides its own cells (cs). -/
def holeH {α : Type} [Rep α] (l : List α) (v : Value) (i : Nat) (cs : List Value) (h : Heap) (fp : List Nat) : Prop :=
  ∃ (pre post : List Value) (f1 f2 : List (List Nat)), IsRow v l.length ∧ l.length ≤ 9223372036854775807 ∧ i < l.length ∧ v ≠ .slice none 0 0 ∧ cs.length = Rep.sz α ∧
    cellsAt h (rowB v) (rowO v) (l.length * Rep.sz α) = some (pre ++ cs ++ post) ∧ Cells h (l.take i) pre f1 ∧ Cells h (l.drop (i + 1)) post f2 ∧ fp = rowB v :: (f1.flatten ++ f2.flatten)
def holeA {α : Type} [Rep α] (l : List α) (v : Value) (i : Nat) (cs : List Value) : Asr := ⟨holeH l v i cs,
  fun {h h' fp} hh hf => by
    obtain ⟨pre, post, f1, f2, h1, h2, h3, h4, h5, h6, h7, h8, rfl⟩ := hh
    exact ⟨pre, post, f1, f2, h1, h2, h3, h4, h5, (cellsAt_congr (hf _ (by simp))).trans h6, h7.frame fun b hb => hf b (by simp [hb]), h8.frame fun b hb => hf b (by simp [hb]), rfl⟩,
  fun {h fp} hh b hb => by
    obtain ⟨pre, post, f1, f2, h1, h2, h3, h4, h5, h6, h7, h8, rfl⟩ := hh
    simp only [List.mem_cons, List.mem_append] at hb
    rcases hb with rfl | hb | hb
    · obtain ⟨k, hk, _⟩ := cellsAt_getB h6; exact getB_lt hk
    · exact h7.live b hb
    · exact h8.live b hb⟩

section
variable {α : Type} [Rep α] {a h h' : Heap} {L : List Asr} {l : List α} {v : Value} {x y : α} {cs ds : List Value} {i : Nat}
theorem list_three {l : List α} {i : Nat} {x : α} (hx : l[i]? = some x) : l = l.take i ++ [x] ++ l.drop (i + 1) := by
  conv => lhs; rw [← List.take_append_drop i l, drop_cons hx]
  simp
/-- One element comes out. -/
theorem Sep.focus (s : Sep a h (repA l [v] :: L)) (hx : l[i]? = some x) : ∃ cs, cellsAt h (rowB v) (rowO v + i * Rep.sz α) (Rep.sz α) = some cs ∧ Sep a h (repA x cs :: holeA l v i cs :: L) := by
  have hi := (List.getElem?_eq_some_iff.1 hx).1
  obtain ⟨fp0, ⟨v', e, hr⟩, _⟩ := s.get
  obtain rfl : v = v' := by simpa using e
  obtain ⟨xs, f, hc, hrep, _, hv⟩ := hr.at hx
  refine ⟨xs, hc, (s.to (y := bothA (repA x xs) (holeA l v i xs)) ?_).unboth⟩
  rintro fp ⟨v', e, hr⟩ hd
  obtain rfl : v = v' := by simpa using e
  obtain ⟨h1, h2, h3⟩ := hr
  rcases h3 with ⟨rfl, _⟩ | ⟨ks, fps, hne, hk, rfl, hcs⟩
  · simp at hi
  · have hl3 := list_three hx
    have hcs' := hcs
    rw [hl3, List.append_assoc] at hcs'
    obtain ⟨c1, c2⟩ := hcs'.split
    obtain ⟨c3, c4⟩ := c2.split
    have li : (l.take i).length = i := by simp; omega
    rw [li] at c1 c3 c4
    obtain ⟨c, f, cs', fps', e1, e2, e3, e4, e5⟩ := c3
    have hlen := hcs.length.1
    have hxs : (ks.drop (i * Rep.sz α)).take (Rep.sz α) = xs := by
      obtain ⟨kk, hkk, hle, rfl⟩ := cellsAt_getB hk
      have hm : i * Rep.sz α + Rep.sz α ≤ l.length * Rep.sz α := by rw [← Nat.succ_mul]; exact Nat.mul_le_mul_right _ hi
      rw [cellsAt_of hkk (by omega)] at hc
      rw [List.drop_take, List.drop_drop, List.take_take, Nat.min_eq_left (by omega)]
      simpa using hc
    simp only [List.length_cons, List.length_nil, Nat.zero_add, Nat.one_mul] at e1 e2 c4
    subst e4; subst e5
    rw [List.append_nil] at e1
    have ec : c = xs := by rw [← e1, hxs]
    subst ec
    have hfps : fps = fps.take i ++ [f] ++ (fps.drop i).drop 1 := by
      conv => lhs; rw [← List.take_append_drop i fps, ← List.take_append_drop 1 (fps.drop i), e2]
      simp
    have hks : ks = ks.take (i * Rep.sz α) ++ c ++ (ks.drop (i * Rep.sz α)).drop (Rep.sz α) := by
      conv => lhs; rw [← List.take_append_drop (i * Rep.sz α) ks, ← List.take_append_drop (Rep.sz α) (ks.drop (i * Rep.sz α)), hxs]
      simp
    have hfl : fps.flatten = (fps.take i).flatten ++ (f ++ ((fps.drop i).drop 1).flatten) := by
      conv => lhs; rw [hfps]
      simp
    have hperm : ∀ (_ : List (List Nat)) (_ : List Nat), (f ++ (rowB v :: ((fps.take i).flatten ++ ((fps.drop i).drop 1).flatten))).Perm (rowB v :: fps.flatten) := fun _ _ => by
      rw [hfl]
      refine List.perm_middle.trans (List.Perm.cons _ ?_)
      rw [← List.append_assoc, ← List.append_assoc]
      exact List.Perm.append_right _ List.perm_append_comm
    refine ⟨f ++ (rowB v :: ((fps.take i).flatten ++ ((fps.drop i).drop 1).flatten)), ⟨f, _, rfl, e3, _, _, fps.take i, (fps.drop i).drop 1, h1, h2, hi, hne, Rep.len e3, by rw [← hks]; exact hk, c1, c4, rfl⟩, ?_, fun b hb => ?_⟩
    · exact (hperm fps f).nodup_iff.2 hd
    · exact (hperm fps f).mem_iff.1 hb
/-- And goes in again. -/
theorem Sep.close (s : Sep a h (repA y cs :: holeA l v i cs :: L)) : Sep a h (repA (l.set i y) [v] :: L) := by
  refine s.both.to ?_
  rintro fp ⟨f, g, rfl, hy, pre, post, f1, f2, h1, h2, h3, h4, h5, h6, h7, h8, rfl⟩ hd
  have hset : l.set i y = l.take i ++ [y] ++ l.drop (i + 1) := by rw [List.set_eq_take_append_cons_drop, if_pos h3]; simp
  have hll : (l.set i y).length = l.length := by simp
  have hcc := (h7.append (Cells.one hy)).append h8
  rw [← hset] at hcc
  refine ⟨rowB v :: (f1 ++ [f] ++ f2).flatten, ⟨v, rfl, by rw [hll]; exact h1, by rw [hll]; exact h2, .inr ⟨_, _, h4, by rw [hll]; exact h6, rfl, hcc⟩⟩, ?_, fun b hb => ?_⟩
  · have hp : (rowB v :: (f1 ++ [f] ++ f2).flatten).Perm (f ++ (rowB v :: (f1.flatten ++ f2.flatten))) := by
      refine List.Perm.symm (List.perm_middle.trans (List.Perm.cons _ ?_))
      simp only [List.flatten_append, List.flatten_cons, List.flatten_nil, List.append_nil]
      rw [← List.append_assoc]
      exact List.Perm.append_right _ List.perm_append_comm
    exact hp.nodup_iff.2 hd
  · simp only [List.flatten_append, List.flatten_cons, List.flatten_nil, List.append_nil, List.mem_cons, List.mem_append] at hb ⊢
    rcases hb with hb | (hb | hb) | hb <;> simp [hb]
/-- Cells of the element itself are written. -/
theorem sep_hole {j o : Nat} {K : Value → Heap → Prop} (s : Sep a h (holeA l v i cs :: L)) (ho : o = rowO v + i * Rep.sz α + j) (hj : j + ds.length ≤ cs.length)
    (next : ∀ h', Sep a h' (holeA l v i (putCells cs j ds) :: L) → K UN h') : stK (writeB h (rowB v) o ds) K := by
  subst ho
  obtain ⟨fp0, ⟨pre, post, f1, f2, h1, h2, h3, h4, h5, h6, h7, h8, rfl⟩, hd0, hrw0⟩ := s.get
  have hpl := h7.length.1
  have li : (l.take i).length = i := by simp; omega
  rw [li] at hpl
  obtain ⟨k, hk, hle, hks⟩ := cellsAt_getB h6
  obtain ⟨k0, hk0, hro⟩ := (hrw0 (rowB v) (by simp)).2
  obtain rfl : k = k0 := by rw [hk] at hk0; simpa using hk0
  obtain ⟨kc, kty, kro, kex⟩ := k
  simp only at hro hle hks
  subst hro
  have hll : (pre ++ cs ++ post).length = l.length * Rep.sz α := by rw [hks]; simp; omega
  have him : i * Rep.sz α + Rep.sz α ≤ l.length * Rep.sz α := by rw [← Nat.succ_mul]; exact Nat.mul_le_mul_right _ h3
  have hwl : rowO v + i * Rep.sz α + j + ds.length ≤ kc.length := by omega
  have hw : writeB h (rowB v) (rowO v + i * Rep.sz α + j) ds = some (h.set (rowB v) (some ⟨putCells kc (rowO v + i * Rep.sz α + j) ds, kty, false, kex⟩)) := by
    simp only [writeB, hk, Bool.not_false, Bool.true_and, decide_eq_true hwl, if_true]
  have hg : getB (h.set (rowB v) (some ⟨putCells kc (rowO v + i * Rep.sz α + j) ds, kty, false, kex⟩)) (rowB v) = some ⟨putCells kc (rowO v + i * Rep.sz α + j) ds, kty, false, kex⟩ := by rw [getB_set (getB_lt hk), if_pos rfl]
  have hframe : ∀ c, c ≠ rowB v → getB (h.set (rowB v) (some ⟨putCells kc (rowO v + i * Rep.sz α + j) ds, kty, false, kex⟩)) c = getB h c := fun c hc => by rw [getB_set (getB_lt hk), if_neg hc]
  rw [hw]
  refine next _ (s.put ?_)
  rintro fp ⟨pre', post', g1, g2, _, _, _, _, _, k6, k7, k8, rfl⟩ hd hrw
  have e6 : pre' ++ cs ++ post' = pre ++ cs ++ post := by rw [h6] at k6; simpa using k6.symm
  have hpl' := k7.length.1
  rw [li] at hpl'
  have hnd := List.nodup_cons.1 hd
  refine ⟨_, ⟨pre', post', g1, g2, h1, h2, h3, h4, ?_, ?_, k7.frame fun b hb => hframe b fun e => hnd.1 (by rw [← e]; simp [hb]), k8.frame fun b hb => hframe b fun e => hnd.1 (by rw [← e]; simp [hb]), rfl⟩, hd, ⟨by simp, fun c _ hc => hframe c fun e => hc (by rw [e]; simp)⟩, fun b hb => ⟨.inl hb, ?_⟩⟩
  · rw [putCells_length hj]; exact h5
  · have hpcl := putCells_length hwl
    rw [cellsAt_of hg (by simp only []; omega)]
    congr 1
    rw [e6] at k6
    apply List.ext_getElem?
    intro m
    have hq : ∀ m, m < l.length * Rep.sz α → kc[rowO v + m]? = (pre' ++ cs ++ post')[m]? := fun m hm => by
      rw [e6, hks, List.getElem?_take, if_pos hm, List.getElem?_drop]
    rw [List.getElem?_take]
    split
    · rename_i hm
      rw [List.getElem?_drop]
      simp only []
      by_cases hin : i * Rep.sz α + j ≤ m ∧ m < i * Rep.sz α + j + ds.length
      · rw [putCells_in hwl (by omega) (by omega), List.getElem?_append_left (by rw [List.length_append, putCells_length hj]; omega), List.getElem?_append_right (by omega), putCells_in hj (by omega) (by omega)]
        congr 1; omega
      · rw [putCells_out hwl (by omega), hq m hm]
        by_cases hlo : m < pre'.length
        · rw [List.getElem?_append_left (by rw [List.length_append]; omega), List.getElem?_append_left hlo, List.getElem?_append_left (by rw [List.length_append]; omega), List.getElem?_append_left hlo]
        · by_cases hmid : m < pre'.length + cs.length
          · rw [List.getElem?_append_left (by rw [List.length_append]; omega), List.getElem?_append_right (by omega), List.getElem?_append_left (by rw [List.length_append, putCells_length hj]; omega), List.getElem?_append_right (by omega), putCells_out hj (by omega)]
          · rw [List.getElem?_append_right (by rw [List.length_append]; omega), List.getElem?_append_right (by rw [List.length_append, putCells_length hj]; omega), List.length_append, List.length_append, putCells_length hj]
    · rename_i hm
      symm
      rw [List.getElem?_eq_none_iff, List.length_append, List.length_append, putCells_length hj]
      have : (pre' ++ cs ++ post').length = l.length * Rep.sz α := by rw [e6]; exact hll
      rw [List.length_append, List.length_append] at this
      omega
  · by_cases hb1 : b = rowB v
    · subst hb1; exact ⟨_, hg, rfl⟩
    · exact (hrw b hb).of (hframe b hb1)
theorem Sep.hcs (s : Sep a h (holeA l v i cs :: L)) (e : cs = ds) : Sep a h (holeA l v i ds :: L) := e ▸ s
theorem Sep.hrd (s : Sep a h (holeA l v i cs :: L)) (j : Nat) (hj : j < cs.length) {o : Nat} (ho : o = rowO v + i * Rep.sz α + j) : getC h (rowB v) o = cs[j]? := by
  subst ho
  obtain ⟨fp0, ⟨pre, post, f1, f2, h1, h2, h3, h4, h5, h6, h7, h8, rfl⟩, _⟩ := s.get
  have hpl := h7.length.1
  have li : (l.take i).length = i := by simp; omega
  rw [li] at hpl
  have him : i * Rep.sz α + Rep.sz α ≤ l.length * Rep.sz α := by rw [← Nat.succ_mul]; exact Nat.mul_le_mul_right _ h3
  have := cellsAt_getC h6 (i * Rep.sz α + j) (by omega)
  rw [← Nat.add_assoc] at this
  rw [this, List.getElem?_append_left (by rw [List.length_append]; omega), List.getElem?_append_right (by omega)]
  congr 1; omega
end

/-- How the harness marks: as handed over by value (bmk: its ints stay), and as an element of a list (emk). -/
class Mrk (α : Type) where
  bmk : α → Int → α
  cnt : α → Nat
  emk : α → Int → α
  ecnt : α → Nat
instance : Mrk Int := ⟨fun x _ => x, fun _ => 0, fun _ k => k, fun _ => 1⟩
section
variable {α : Type} [Mrk α]
def mkL : List α → Int → List α
  | [], _ => []
  | x :: l, k => Mrk.emk x k :: mkL l (k + (Mrk.ecnt x : Nat))
def cntL (l : List α) : Nat := (l.map Mrk.ecnt).sum
instance : Mrk (List α) := ⟨mkL, cntL, mkL, cntL⟩
theorem cntL_take {l : List α} {i : Nat} {x : α} (hx : l[i]? = some x) : cntL (l.take (i + 1)) = cntL (l.take i) + Mrk.ecnt x := by
  unfold cntL; rw [List.take_add_one, hx]; simp
theorem cntL_take_le (l : List α) (i : Nat) : cntL (l.take i) ≤ cntL l := by
  have : cntL l = cntL (l.take i) + cntL (l.drop i) := by
    unfold cntL
    rw [← List.sum_append, ← List.map_append, List.take_append_drop]
  omega
theorem mkL_length (l : List α) (k : Int) : (mkL l k).length = l.length := by
  induction l generalizing k with
  | nil => rfl
  | cons x l ih => simp [mkL, ih]
theorem mkL_append (l m : List α) (k : Int) : mkL (l ++ m) k = mkL l k ++ mkL m (k + (cntL l : Nat)) := by
  induction l generalizing k with
  | nil => simp [mkL, cntL]
  | cons x l ih =>
    simp only [List.cons_append, mkL, ih]
    have : k + (Mrk.ecnt x : Nat) + (cntL l : Nat) = k + (cntL (x :: l) : Nat) := by simp [cntL]; omega
    rw [this]
theorem mkL_get {l : List α} {i : Nat} {x : α} (hx : l[i]? = some x) (k : Int) : (mkL l k)[i]? = some (Mrk.emk x (k + (cntL (l.take i) : Nat))) := by
  have hi := (List.getElem?_eq_some_iff.1 hx).1
  conv => lhs; rw [← List.take_append_drop i l, drop_cons hx]
  rw [mkL_append, List.getElem?_append_right (by rw [mkL_length]; simp; omega), mkL_length, List.length_take, Nat.min_eq_left (by omega), Nat.sub_self]
  rfl
theorem mkP_length (l : List α) (k : Int) {i : Nat} (hi : i ≤ l.length) : (mkL (l.take i) k ++ l.drop i).length = l.length := by
  rw [List.length_append, mkL_length]; simp; omega
theorem mkP_get {l : List α} {i : Nat} {x : α} (hx : l[i]? = some x) (k : Int) : (mkL (l.take i) k ++ l.drop i)[i]? = some x := by
  have hi := (List.getElem?_eq_some_iff.1 hx).1
  rw [List.getElem?_append_right (by rw [mkL_length]; simp; omega), mkL_length, List.length_take, Nat.min_eq_left (by omega), Nat.sub_self, List.getElem?_drop]
  simpa using hx
theorem mkP_set {l : List α} {i : Nat} {x : α} (hx : l[i]? = some x) (k : Int) : (mkL (l.take i) k ++ l.drop i).set i (Mrk.emk x (k + (cntL (l.take i) : Nat))) = mkL (l.take (i + 1)) k ++ l.drop (i + 1) := by
  have hi := (List.getElem?_eq_some_iff.1 hx).1
  have hl : (mkL (l.take i) k).length = i := by rw [mkL_length]; simp; omega
  rw [List.set_append_right _ _ (by omega), hl, Nat.sub_self, drop_cons hx, List.set_cons_zero, List.take_add_one, hx, mkL_append]
  simp [mkL]
end
end Go.V
end

section
/- The layer V, part 28: more of appending. -/
namespace Go.V
open Go Go.RowKit

/-- Data that takes no block besides its cells. -/
class FlatT (α : Type) [Rep α] : Prop where
  flat : ∀ {h : Heap} {x : α} {cs : List Value} {fp : List Nat}, Rep.rep h x cs fp → fp = []
instance : FlatT Int := ⟨fun h => h.2.1⟩
instance : FlatT Bool := ⟨fun h => h.2⟩
instance : FlatT ByteArray := ⟨fun h => h.2.1⟩
instance : FlatT UInt8 := ⟨fun h => h.2⟩
instance {α β : Type} [Rep α] [Rep β] [FlatT α] [FlatT β] : FlatT (α × β) := ⟨fun ⟨_, _, _, _, _, e, h1, h2⟩ => by rw [e, FlatT.flat h1, FlatT.flat h2]; rfl⟩

section
variable {α : Type} [Rep α] {a h h' : Heap} {L : List Asr} {el : TypeId} {l ys : List α} {v x : Value} {y : α} {cs : List Value}
theorem Cells.flat [FlatT α] {fps : List (List Nat)} (hc : Cells h ys cs fps) : fps.flatten = [] := by
  induction ys generalizing cs fps with
  | nil => obtain ⟨rfl, rfl⟩ := hc; rfl
  | cons y ys ih =>
    obtain ⟨c, f, cs', fps', rfl, rfl, hr, hc⟩ := hc
    rw [List.flatten_cons, FlatT.flat hr, ih hc]; rfl
/-- What an append takes from a row. -/
theorem Row.rowV (r : Row h ys x) : ∃ cs fps, V.rowV h (Rep.sz α) ys.length x = some cs ∧ Cells h ys cs fps ∧ lenV x = some ys.length := by
  obtain ⟨fp, h1, h2, h3⟩ := r
  have hl : lenV x = some ys.length := by rcases h1 with ⟨rfl, hn⟩ | ⟨b, off, cap, rfl, _⟩ <;> simp [lenV, *]
  rcases h3 with ⟨rfl, _⟩ | ⟨cs, fps, hne, hc, _, hcs⟩
  · refine ⟨[], [], ?_, ⟨rfl, rfl⟩, hl⟩
    rcases h1 with ⟨rfl, _⟩ | ⟨b, off, cap, rfl, _⟩
    · rfl
    · simp [V.rowV]
  · rcases h1 with ⟨rfl, _⟩ | ⟨b, off, cap, rfl, _⟩
    · exact (hne rfl).elim
    · exact ⟨cs, fps, rowV_cells hc, hcs, hl⟩
theorem sep_appendX {P : Program} {t : TypeId} {k : TK} {n : Nat} {K : Value → Heap → Prop}
    (s : Sep a h (ownA el l v :: cellsA ys cs :: L)) (hw : lenV x = some n) (hr : V.rowV h (Rep.sz α) n x = some cs) (hn : ys.length = n) (ht : tElem P t = some el) (hk : tk P el = some k) (hs : k.size = Rep.sz α) (hb0 : 0 < k.bytes) (hb : (l.length + n) * k.bytes ≤ 140737488355328)
    (next : ∀ v' h', Sep a h' (ownA el (l ++ ys) v' :: L) → K v' h') : optH (appendV P t v x h) K := by
  subst hn
  have hle : l.length + ys.length ≤ 140737488355328 := Nat.le_trans (Nat.le_mul_of_pos_right _ hb0) hb
  obtain ⟨fp, ⟨f1, f2, rfl, h1, fps, hc, rfl⟩, hd, hrw⟩ := s.both.get
  obtain ⟨v', h', fp', e, _, _, _⟩ := own_append2 h1 ht hk hs hw hr hc hd hb (by omega)
  rw [e]
  refine next v' h' (s.both.put ?_)
  rintro fp ⟨f1, f2, rfl, h1, fps, hc, rfl⟩ hd hrw
  obtain ⟨v2, h2, fp2, e2, o, c, m⟩ := own_append2 h1 ht hk hs hw hr hc hd hb (by omega)
  obtain ⟨rfl, rfl⟩ : v' = v2 ∧ h' = h2 := by rw [e] at e2; simpa using e2
  have hsub : ∀ b ∈ own1 v, b ∈ f1 := fun b hb => by
    rcases Own.cases h1 with ⟨rfl, _, _⟩ | ⟨b', off, cap, kb, fps', rfl, _, _, _, _, _, rfl, _⟩
    · simp [own1] at hb
    · simp only [own1, List.mem_singleton] at hb; subst hb; simp
  refine ⟨fp2, o, o.nodup, ⟨c.le, fun b hb hn => c.eq b hb fun hm => hn (List.mem_append_left _ (hsub b hm))⟩, fun b hb => ?_⟩
  rcases m b hb with ⟨rfl, h3⟩ | ⟨h3, h4⟩ | h3
  · refine ⟨h3.imp (fun h => by simp [h]) id, ?_⟩
    rcases o.own with ⟨_, rfl⟩ | ⟨k', _, hk1, hk2, _⟩
    · simp at hb
    · exact ⟨k', hk1, hk2⟩
  · exact ⟨.inl (by simp [h3]), (hrw b (by simp [h3])).of (c.eq b (hrw b (by simp [h3])).lt h4)⟩
  · have hn4 : b ∉ own1 v := fun hm => (List.nodup_append.1 hd).2.2 b (hsub b hm) b h3 rfl
    exact ⟨.inl (by simp [h3]), (hrw b (by simp [h3])).of (c.eq b (hrw b (by simp [h3])).lt hn4)⟩
/-- append of all elements of another row. -/
theorem sep_appendRow [FlatT α] {P : Program} {t : TypeId} {k : TK} {K : Value → Heap → Prop}
    (s : Sep a h (ownA el l v :: L)) (r : Row h ys x) (ht : tElem P t = some el) (hk : tk P el = some k) (hs : k.size = Rep.sz α) (hb0 : 0 < k.bytes) (hb : (l.length + ys.length) * k.bytes ≤ 140737488355328)
    (next : ∀ v' h', Sep a h' (ownA el (l ++ ys) v' :: L) → K v' h') : optH (appendV P t v x h) K := by
  obtain ⟨cs, fps, hr, hc, hl⟩ := r.rowV
  exact sep_appendX (Sep.swap (Sep.flat (x := cellsA ys cs) s ⟨fps, hc, hc.flat.symm⟩)) hl hr rfl ht hk hs hb0 hb next
/-- An empty list that has just been built. -/
theorem Sep.empty (s : Sep a h L) (el : TypeId) (ex : Bool) : Sep a (h ++ [some ⟨[], el, false, ex⟩]) (ownA (α := α) el [] (.slice (some ⟨h.length, 0, none⟩) 0 0) :: L) := by
  refine (s.newBlk [] el ex).to fun fp ⟨e, ex', hg⟩ hd => ?_
  subst e
  exact ⟨[h.length], Own.mk' (α := α) (l := []) (b := h.length) (off := 0) (cap := 0) (fps := []) (Nat.le_refl _) (by simp) hg rfl rfl (by simp) ⟨by simp, rfl⟩ (by simp), by simp, fun _ h => h⟩
theorem Row.nil_or (r : Row h ys x) : (x = .slice none 0 0 ∧ ys = []) ∨ ∃ b off n c, x = .slice (some ⟨b, off, none⟩) n c := by
  rcases r.isRow with ⟨rfl, hn⟩ | ⟨b, off, cap, rfl, _⟩
  · exact .inl ⟨rfl, List.eq_nil_of_length_eq_zero hn⟩
  · exact .inr ⟨b, off, _, cap, rfl⟩
end
theorem isNone_some {α : Type} (b : α) : (some b).isNone = false := rfl
theorem isNone_none {α : Type} : (none : Option α).isNone = true := rfl
theorem r_ct (P : Program) (t a s : Nat) (Q : Value → Heap → Prop) (e : Env) (h : Heap) : retK P [.cell a t, .tmp s] Q .ret e h = retL Q h [loadV P t (e a) h, some (e s)] [] := r2_gen P _ _ Q e h
theorem r_cc (P : Program) (t a s b : Nat) (Q : Value → Heap → Prop) (e : Env) (h : Heap) : retK P [.cell a t, .cell b s] Q .ret e h = retL Q h [loadV P t (e a) h, loadV P s (e b) h] [] := r2_gen P _ _ Q e h
theorem r_tc (P : Program) (t a s : Nat) (Q : Value → Heap → Prop) (e : Env) (h : Heap) : retK P [.tmp s, .cell a t] Q .ret e h = retL Q h [some (e s), loadV P t (e a) h] [] := r2_gen P _ _ Q e h
theorem r_tct (P : Program) (t a s u : Nat) (Q : Value → Heap → Prop) (e : Env) (h : Heap) : retK P [.tmp s, .cell a t, .tmp u] Q .ret e h = retL Q h [some (e s), loadV P t (e a) h, some (e u)] [] := r3_gen P _ _ _ Q e h
theorem r_ctt (P : Program) (t a s u : Nat) (Q : Value → Heap → Prop) (e : Env) (h : Heap) : retK P [.cell a t, .tmp s, .tmp u] Q .ret e h = retL Q h [loadV P t (e a) h, some (e s), some (e u)] [] := r3_gen P _ _ _ Q e h
theorem r_cct (P : Program) (t a s u b : Nat) (Q : Value → Heap → Prop) (e : Env) (h : Heap) : retK P [.cell a t, .cell b u, .tmp s] Q .ret e h = retL Q h [loadV P t (e a) h, loadV P u (e b) h, some (e s)] [] := r3_gen P _ _ _ Q e h
theorem retL_some (Q : Value → Heap → Prop) (h : Heap) (v : Value) (l : List (Option Value)) (vs : List Value) : retL Q h (some v :: l) vs = retL Q h l (vs ++ [v]) := rfl
theorem retL_nil (Q : Value → Heap → Prop) (h : Heap) (vs : List Value) : retL Q h [] vs = if vs.all plainV then Q (.tuple vs.toArray) h else False := rfl
theorem all_cons' (f : Value → Bool) (v : Value) (l : List Value) : (v :: l).all f = (f v && l.all f) := rfl
theorem all_nil' (f : Value → Bool) : ([] : List Value).all f = true := rfl
def VB := And.intro @isNone_some (And.intro @isNone_none (And.intro @r_ct (And.intro @r_cc (And.intro @r_tc (And.intro @r_tct (And.intro @r_ctt (And.intro @r_cct (And.intro @retL_some (And.intro @retL_nil (And.intro @all_cons' @all_nil'))))))))))

/-- The marks are not many. -/
class CntB (α : Type) [Mrk α] [Siz α] : Prop where
  c : ∀ x : α, Mrk.cnt x ≤ 8 * Siz.siz x
  e : ∀ x : α, Mrk.ecnt x ≤ 8 * (1 + Siz.siz x)
instance : CntB Int := ⟨fun _ => Nat.zero_le _, fun _ => by show 1 ≤ 8 * (1 + 0); decide⟩
theorem cntL_le {α : Type} [Mrk α] [Siz α] [CntB α] (l : List α) : cntL l ≤ 8 * Siz.siz l := by
  rw [siz_list]
  unfold cntL
  induction l with
  | nil => simp
  | cons x l ih =>
    have := CntB.e x
    simp only [List.map_cons, List.sum_cons, List.length_cons]
    omega
instance {α : Type} [Mrk α] [Siz α] [CntB α] : CntB (List α) := ⟨cntL_le, fun x => by have : Mrk.ecnt x = cntL x := rfl; have := cntL_le x; omega⟩
section
variable {α β : Type} [Rep α] [Rep β] [Giv α] [Giv β] {h : Heap} {c1 c2 : List Value}
end
instance : Giv ByteArray := Giv.base ⟨#[126, 115, 112, 97, 114, 101, 126]⟩
/-! ### functions whose contract speaks of worlds (the library's) -/
theorem Rel.below {P : Program} [Laid P] {B0 : Nat} {ι : List Place} {h : Heap} {w w' : World} (r : Rel P B0 ι h w) (b : Below w.heap.size w w') : Rel P B0 ι h w' := by
  have hb0 : Below B0 w w' := ⟨b.os, b.tape, b.output, b.size, fun k hk => b.block k (Nat.lt_of_lt_of_le hk r.base)⟩
  refine ⟨r.len, Nat.le_trans r.base b.size, fun w2 h2 => r.glob w2 (hb0.trans h2), fun b' k p hb hp => ?_, r.inj⟩
  obtain ⟨arr, fz, h1, h2⟩ := r.blk b' k p hb hp
  refine ⟨arr, fz, ?_, h2⟩
  rw [b.block p.blk (Array.getElem?_eq_some_iff.1 h1).1]; exact h1
/-- A library's function on plain values. -/
theorem CallsV.of_calls {P : Program} [Laid P] {f : FuncId} {args : List Value} {v : Value} {h : Heap} {Q : Value → Heap → Prop}
    (ha : ∀ ι us, L2 (VR ι) args us → us = args) (hv : ∀ ι, VR ι v v)
    (hc : ∀ w, Laid.G P w → Calls P f args.toArray w fun e w' => e = .returned v ∧ Below w.heap.size w w') (hQ : Q v h) : CallsV P f args h Q := by
  intro B0 ι w us r hu
  obtain rfl := ha ι us hu
  refine (hc w (r.glob w (Below.refl B0 w))).mono ?_
  rintro e w' ⟨rfl, b⟩
  exact ⟨v, v, h, ι, rfl, hQ, hv ι, r.below b, List.prefix_rfl, ⟨b.os, b.tape, b.output, b.size, fun k hk => b.block k (Nat.lt_of_lt_of_le hk r.base)⟩⟩

end Go.V
end

section
/- The layer V, part 29: regions whose last operations may stand in any order. -/
namespace Go.V
open Go Go.RowKit

/-- Which operations may come next, what stands ahead behind each, what is left, and whether all that was read before may be forgotten. -/
abbrev Plan := Nat × List Nat × List Nat × Bool
def planOf (P : Program) (all : Array Oper) (ms : List Nat) (rem : List Nat) : List Plan := (rem.filter (readyB ms rem)).map fun i => (i, aheadOf P all ms rem i, restOf P all ms rem i, cutB all.size ms rem i)
def cutOf (b : Bool) : Option (List TypeId) := cond b (some []) none
def altK (P : Program) [Laid P] (all : Array Oper) (ms : List Nat) (K : Env → Heap → Prop) (n : Nat) (e : Env) (h : Heap) (held : Held) : List Plan → Prop
  | [] => True
  | x :: l => (∃ os, (x.1 :: x.2.1).filterMap (all[·]?) = os ∧ os.length = x.2.1.length + 1 ∧ opsE P all os e h (cond x.2.2.2 [] held) fun e h held => tailK P all ms K n x.2.2.1 e h held) ∧ altK P all ms K n e h held l
theorem altK_mem {P : Program} [Laid P] {all : Array Oper} {ms : List Nat} {K : Env → Heap → Prop} {n : Nat} {e : Env} {h : Heap} {held : Held} {l : List Plan} (ha : altK P all ms K n e h held l) {x : Plan} (hx : x ∈ l) :
    ∃ os, (x.1 :: x.2.1).filterMap (all[·]?) = os ∧ os.length = x.2.1.length + 1 ∧ opsE P all os e h (cond x.2.2.2 [] held) fun e h held => tailK P all ms K n x.2.2.1 e h held := by
  induction l with
  | nil => simp at hx
  | cons y l ih =>
    obtain ⟨h1, h2⟩ := ha
    rcases List.mem_cons.1 hx with rfl | hx
    · exact h1
    · exact ih h2 hx
theorem filterMap_le {α β : Type} (f : α → Option β) : ∀ l : List α, (l.filterMap f).length ≤ l.length := fun l => List.length_filterMap_le f l
theorem cutB_ok {all : Array Oper} {ms rem : List Nat} {i : Nat} : cutOk all ms rem i (cutOf (cutB all.size ms rem i)) = true := by
  cases hc : cutB all.size ms rem i with
  | false => rfl
  | true =>
    refine List.all_eq_true.2 fun j hj => ?_
    have := List.all_eq_true.1 hc j hj
    rw [this, Bool.true_or]
theorem cutB_held (b : Bool) (held : Held) : heldCut (cutOf b) held = cond b [] held := by
  cases b with
  | false => rfl
  | true => simp [cutOf, heldCut]
theorem tail_step {P : Program} [Laid P] {all : Array Oper} {ms : List Nat} {K : Env → Heap → Prop} {n : Nat} {rem : List Nat} {e : Env} {h : Heap} {held : Held} (plan : List Plan) (hne : rem.isEmpty = false) (hp : planOf P all ms rem = plan)
    (ha : altK P all ms K n e h held plan) : tailK P all ms K (n + 1) rem e h held := by
  refine ⟨fun hr => (by rw [hr] at hne; cases hne), fun i hi hm => ?_⟩
  obtain ⟨os, h1, h2, h3⟩ := altK_mem ha (x := (i, aheadOf P all ms rem i, restOf P all ms rem i, cutB all.size ms rem i)) (by
    rw [← hp]
    exact List.mem_map.2 ⟨i, List.mem_filter.2 ⟨hi, hm⟩, rfl⟩)
  simp only [List.filterMap_cons] at h1
  cases ho : all[i]? with
  | none =>
    rw [ho] at h1
    have := filterMap_le (all[·]?) (aheadOf P all ms rem i)
    simp only [] at h1 h2
    rw [← h1] at h2
    omega
  | some o =>
    rw [ho] at h1
    simp only [] at h1
    subst h1
    exact ⟨o, rfl, _, cutB_ok, by rw [cutB_held]; exact h3⟩
/-- One operation alone may come next; of what was read before, only loads of the types T might come behind it. -/
theorem tail_one {P : Program} [Laid P] {l os : List Oper} {ms : List Nat} {K : Env → Heap → Prop} {n : Nat} {rem : List Nat} {e : Env} {h : Heap} {held : Held} (T : List TypeId) {i : Nat} {pl r : List Nat} (hne : rem.isEmpty = false)
    {held' : Held} (hp : ((rem.filter (readyB ms rem)).map fun i => (i, aheadOf P l.toArray ms rem i, restOf P l.toArray ms rem i)) = [(i, pl, r)]) (hc : cutOk l.toArray ms rem i (some T) = true)
    (hl : (i :: pl).filterMap (l[·]?) = os) (hn : os.length = pl.length + 1) (hh : heldCut (some T) held = held') (ha : opsE P l.toArray os e h held' fun e h held => tailK P l.toArray ms K n r e h held) : tailK P l.toArray ms K (n + 1) rem e h held := by
  refine ⟨fun hr => (by rw [hr] at hne; cases hne), fun j hj hm => ?_⟩
  have hmem : (j, aheadOf P l.toArray ms rem j, restOf P l.toArray ms rem j) ∈ [(i, pl, r)] := by
    rw [← hp]
    exact List.mem_map.2 ⟨j, List.mem_filter.2 ⟨hj, hm⟩, rfl⟩
  simp only [List.mem_singleton, Prod.mk.injEq] at hmem
  obtain ⟨rfl, h1, h2⟩ := hmem
  have hg : (fun x : Nat => l.toArray[x]?) = (fun x : Nat => l[x]?) := by funext x; simp
  simp only [List.filterMap_cons] at hl
  cases ho : l[j]? with
  | none =>
    rw [ho] at hl
    have := filterMap_le (l[·]?) pl
    simp only [] at hl hn
    rw [← hl] at hn
    omega
  | some o =>
    rw [ho] at hl
    simp only [] at hl
    subst hl
    refine ⟨o, by simpa using ho, some T, hc, ?_⟩
    rw [h1, h2, hg, hh]
    exact ha
theorem draw_tail {P : Program} [Laid P] {l lp : List Oper} {e : Env} {h : Heap} {K : Env → Heap → Prop} (pre tail : List Nat) (hok : drawOk2 P l.toArray pre tail = true) (hl : pre.filterMap (l[·]?) = lp)
    (hd : opsE P l.toArray lp e h [] fun e h held => tailK P l.toArray (masks [] l.toArray.toList) K tail.length tail e h held) : drawK P l e h K := by
  refine .inr ⟨pre, tail, hok, ?_⟩
  have : (fun x : Nat => l.toArray[x]?) = (fun x : Nat => l[x]?) := by funext x; simp
  rw [this, hl]; exact hd
theorem a_nil (P : Program) [Laid P] (all : Array Oper) (ms : List Nat) (K : Env → Heap → Prop) (n : Nat) (e : Env) (h : Heap) (held : Held) : altK P all ms K n e h held [] = True := rfl
theorem a_cons {P : Program} [Laid P] {l os : List Oper} {ms : List Nat} {K : Env → Heap → Prop} {n : Nat} {e : Env} {h : Heap} {held : Held} {i : Nat} {pl r : List Nat} {q : List Plan}
    (hl : (i :: pl).filterMap (l[·]?) = os) (hn : os.length = pl.length + 1) (h1 : opsE P l.toArray os e h held fun e h held => tailK P l.toArray ms K n r e h held) (h2 : altK P l.toArray ms K n e h held q) : altK P l.toArray ms K n e h held ((i, pl, r, false) :: q) := by
  refine ⟨⟨os, ?_, hn, h1⟩, h2⟩
  have : (fun x : Nat => l.toArray[x]?) = (fun x : Nat => l[x]?) := by funext x; simp
  rw [this]; exact hl
theorem a_cut {P : Program} [Laid P] {l os : List Oper} {ms : List Nat} {K : Env → Heap → Prop} {n : Nat} {e : Env} {h : Heap} {held : Held} {i : Nat} {pl r : List Nat} {q : List Plan}
    (hl : (i :: pl).filterMap (l[·]?) = os) (hn : os.length = pl.length + 1) (h1 : opsE P l.toArray os e h [] fun e h held => tailK P l.toArray ms K n r e h held) (h2 : altK P l.toArray ms K n e h held q) : altK P l.toArray ms K n e h held ((i, pl, r, true) :: q) := by
  refine ⟨⟨os, ?_, hn, h1⟩, h2⟩
  have : (fun x : Nat => l.toArray[x]?) = (fun x : Nat => l[x]?) := by funext x; simp
  rw [this]; exact hl
theorem tail_zero (P : Program) [Laid P] (all : Array Oper) (ms : List Nat) (K : Env → Heap → Prop) (r : List Nat) (e : Env) (h : Heap) (held : Held) : tailK P all ms K 0 r e h held = K e h := rfl
theorem tail_empty (P : Program) [Laid P] (all : Array Oper) (ms : List Nat) (K : Env → Heap → Prop) (n : Nat) (e : Env) (h : Heap) (held : Held) : tailK P all ms K (n + 1) [] e h held = K e h := by
  simp [tailK]
def VC := And.intro @a_nil (And.intro @tail_zero @tail_empty)
end Go.V
end

section
/- The layer V, part 30: letters. -/
namespace Go.V
open Go Go.RowKit

theorem x_rowV (h : Heap) (size n b off a c : Nat) : rowV h size n (.slice (some ⟨b, off, none⟩) a c) = if n = 0 then some [] else cellsAt h b off (n * size) := rfl
theorem x_rowV_nil (h : Heap) (size n a c : Nat) : rowV h size n (.slice none a c) = some [] := rfl
theorem x_bytesV_nil : bytesV [] = some [] := rfl
theorem x_bytesV (n : Int) (l : List Value) : bytesV (.int .u8 n :: l) = (bytesV l).map (UInt8.ofNat n.toNat :: ·) := rfl
theorem x_ix_nat (P : Program) (t : TypeId) (s : ByteArray) (k : IntKind) (i : Nat) : indexV P t (.string s) (.int k (i : Int)) = if (tk P t).map (·.kind) = some 3 then (s[i]?).map fun b => .int .u8 b.toNat else none := by
  simp [indexV]
def VE := And.intro @x_rowV (And.intro @x_rowV_nil (And.intro @x_bytesV_nil (And.intro @x_bytesV @x_ix_nat)))
/-- Plain lemmas of lists and options that the walks use. -/
def VL := And.intro @List.length_cons.{0} (And.intro @List.length_nil.{0} (And.intro @List.length_append.{0} (And.intro @List.append_assoc.{0} (And.intro @List.take_succ_cons.{0} (And.intro @List.take_zero.{0} (And.intro @List.drop_succ_cons.{0} (And.intro @List.drop_zero.{0} (And.intro @List.set_cons_zero.{0} (And.intro @List.set_cons_succ.{0} (And.intro @true_or (And.intro @or_true (And.intro @and_self (And.intro @Bool.false_eq_true (And.intro @Nat.le_refl (And.intro @Option.bind_some.{0, 0} (And.intro @Option.map_some.{0, 0} (And.intro @Option.getD_some.{0} (And.intro @Option.isSome_some.{0} (And.intro @List.map_cons.{0, 0} (And.intro @List.map_nil.{0, 0} (And.intro @List.cons_append.{0} (And.intro @List.nil_append.{0} (And.intro @List.append_nil.{0} (And.intro @List.getElem?_cons_zero.{0} (And.intro @List.getElem?_cons_succ.{0} (@eq_self.{1}))))))))))))))))))))))))))
end Go.V
end

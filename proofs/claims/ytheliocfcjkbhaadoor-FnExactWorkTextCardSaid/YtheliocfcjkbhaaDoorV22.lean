/- The layer V, part 22: more steps as equations: structs, new blocks, slices. -/
import Derived.Test.YtheliocfcjkbhaaDoorV21
import Derived.Laws.Strings
set_option linter.all false
namespace Go.V
open Go Go.RowKit

theorem x_field (P : Program) (t : TypeId) (l : List Value) (f : Nat) : fieldV P t (.agg l.toArray) f = (tField P t f).bind fun x => partV P x.2 l x.1 := rfl
theorem x_part (P : Program) (t : TypeId) (l : List Value) (off : Nat) : partV P t l off = (tk P t).bind fun k => if k.agg then some (.agg ((l.drop off).take k.size).toArray) else l[off]? := rfl
theorem x_store (P : Program) (t : TypeId) (b off : Nat) (x : Value) (h : Heap) : storeV P t (.pointer (some ⟨b, off, none⟩)) x h = (tk P t).bind fun k => (cellsV x).bind fun cs => if cs.length = k.size then writeB h b off cs else none := by
  unfold storeV
  cases tk P t with
  | none => rfl
  | some k => cases cellsV x <;> rfl
theorem c_int (k : IntKind) (n : Int) : cellsV (.int k n) = some [.int k n] := rfl
theorem c_bool (n : Bool) : cellsV (.bool n) = some [.bool n] := rfl
theorem c_string (n : ByteArray) : cellsV (.string n) = some [.string n] := rfl
theorem c_slice (a : Option Addr) (n c : Nat) : cellsV (.slice a n c) = some [.slice a n c] := rfl
theorem c_pointer (a : Option Addr) : cellsV (.pointer a) = some [.pointer a] := rfl
theorem c_agg (l : List Value) : cellsV (.agg l.toArray) = some l := rfl
theorem c_nilIface : cellsV .nilIface = some [.nilIface] := rfl
theorem c_iface (t : TypeId) (v : Value) : cellsV (.iface t v) = some [.iface t v] := rfl

/-! ### blocks made here: h ++ [a, b, ..] -/
def topC (o : Option (Option Blk)) (off : Nat) : Option Value := match o with | some (some k) => k.cells[off]? | _ => none
theorem t_getC0 (h : Heap) (l : List (Option Blk)) (off : Nat) : getC (h ++ l) h.length off = topC l[0]? off := by
  unfold getC getB topC
  rw [List.getElem?_append_right (Nat.le_refl _), Nat.sub_self]
  cases l[0]? with
  | none => rfl
  | some x => cases x <;> rfl
theorem t_getC (h : Heap) (l : List (Option Blk)) (i off : Nat) : getC (h ++ l) (h.length + i) off = topC l[i]? off := by
  unfold getC getB topC
  rw [List.getElem?_append_right (by omega), Nat.add_sub_cancel_left]
  cases l[i]? with
  | none => rfl
  | some x => cases x <;> rfl
theorem t_topC (k : Blk) (off : Nat) : topC (some (some k)) off = k.cells[off]? := rfl
def topA (o : Option (Option Blk)) (off n : Nat) : Option (List Value) := match o with | some (some k) => if off + n ≤ k.cells.length then some ((k.cells.drop off).take n) else none | _ => none
theorem t_cellsAt0 (h : Heap) (l : List (Option Blk)) (off n : Nat) : cellsAt (h ++ l) h.length off n = topA l[0]? off n := by
  unfold cellsAt getB topA
  rw [List.getElem?_append_right (Nat.le_refl _), Nat.sub_self]
  cases l[0]? with
  | none => rfl
  | some x => cases x <;> rfl
theorem t_cellsAt (h : Heap) (l : List (Option Blk)) (i off n : Nat) : cellsAt (h ++ l) (h.length + i) off n = topA l[i]? off n := by
  unfold cellsAt getB topA
  rw [List.getElem?_append_right (by omega), Nat.add_sub_cancel_left]
  cases l[i]? with
  | none => rfl
  | some x => cases x <;> rfl
theorem t_topA (k : Blk) (off n : Nat) : topA (some (some k)) off n = if off + n ≤ k.cells.length then some ((k.cells.drop off).take n) else none := rfl
def topW (h : Heap) (l : List (Option Blk)) (i : Nat) (o : Option (Option Blk)) (off : Nat) (cs : List Value) : Option Heap := match o with
  | some (some k) => if !k.ro && decide (off + cs.length ≤ k.cells.length) then some (h ++ l.set i (some { k with cells := putCells k.cells off cs })) else none
  | _ => none
theorem t_write (h : Heap) (l : List (Option Blk)) (i off : Nat) (cs : List Value) : writeB (h ++ l) (h.length + i) off cs = topW h l i l[i]? off cs := by
  unfold writeB getB topW
  rw [List.getElem?_append_right (by omega), Nat.add_sub_cancel_left]
  cases l[i]? with
  | none => rfl
  | some x =>
    cases x with
    | none => rfl
    | some k =>
      simp only [Option.join_some, List.set_append_right _ _ (show h.length ≤ h.length + i by omega), Nat.add_sub_cancel_left]
theorem t_write0 (h : Heap) (l : List (Option Blk)) (off : Nat) (cs : List Value) : writeB (h ++ l) h.length off cs = topW h l 0 l[0]? off cs := t_write h l 0 off cs
theorem t_topW (h : Heap) (l : List (Option Blk)) (i : Nat) (c : List Value) (ty : TypeId) (ex : Bool) (off : Nat) (cs : List Value) : topW h l i (some (some ⟨c, ty, false, ex⟩)) off cs = if off + cs.length ≤ c.length then some (h ++ l.set i (some ⟨putCells c off cs, ty, false, ex⟩)) else none := by
  simp only [topW, Bool.not_false, Bool.true_and, decide_eq_true_eq]
theorem t_put (l : List Value) (off : Nat) (cs : List Value) : putCells l off cs = l.take off ++ cs ++ l.drop (off + cs.length) := rfl
theorem t_put0 (l cs : List Value) (h : l.length = cs.length) : putCells l 0 cs = cs := by simp [putCells, ← h]

theorem x_build (P : Program) (t : TypeId) (parts : List (Nat × Value)) : buildV P t parts = (tk P t).bind fun k => if k.kind = 6 then (if !k.fok then none else (fillV (fieldPl P t) k.zero parts).map fun cs => .agg cs.toArray) else (tArr P t).bind fun (_, el) => (tk P el).bind fun ke => (fillV (fun i => some (i * ke.size, ke.size)) k.zero parts).map fun cs => .agg cs.toArray := rfl
theorem x_fill_nil (place : Nat → Option (Nat × Nat)) (cells : List Value) : fillV place cells [] = some cells := rfl
def fillK (place : Nat → Option (Nat × Nat)) (cells : List Value) (p : Option (Nat × Nat)) (c : Option (List Value)) (rest : List (Nat × Value)) : Option (List Value) :=
  p.bind fun p => c.bind fun cs => if cs.length = p.2 ∧ p.1 + p.2 ≤ cells.length then fillV place (putCells cells p.1 cs) rest else none
theorem x_fill (place : Nat → Option (Nat × Nat)) (cells : List Value) (i : Nat) (v : Value) (rest : List (Nat × Value)) : fillV place cells ((i, v) :: rest) = fillK place cells (place i) (cellsV v) rest := by
  unfold fillK
  conv => lhs; unfold fillV
  cases place i with
  | none => rfl
  | some p => cases cellsV v <;> rfl
theorem x_fillK (place : Nat → Option (Nat × Nat)) (cells : List Value) (a b : Nat) (cs : List Value) (rest : List (Nat × Value)) : fillK place cells (some (a, b)) (some cs) rest = if cs.length = b ∧ a + b ≤ cells.length then fillV place (putCells cells a cs) rest else none := rfl
theorem x_fieldPl (P : Program) (t : TypeId) (i : Nat) : fieldPl P t i = (tField P t i).bind fun x => (tk P x.2).map fun k => (x.1, k.size) := rfl
theorem x_buildSlice (P : Program) (t : TypeId) (n : Nat) (parts : List (Nat × Value)) (h : Heap) : buildSliceV P t n parts h = (tElem P t).bind fun el => (tk P el).bind fun k => if n * k.size ≤ 16777216 then (fillV (fun i => some (i * k.size, k.size)) (rep n k.zero) parts).map fun cs => (.slice (some ⟨h.length, 0, none⟩) n n, h ++ [some ⟨cs, el, false, true⟩]) else none := rfl
theorem x_rep0 (l : List Value) : rep 0 l = [] := rfl
theorem x_rep (n : Nat) (l : List Value) : rep (n + 1) l = l ++ rep n l := rfl
def allocK (o : Option TK) (t : TypeId) (K : Value → Heap → Prop) (h : Heap) : Prop := match o with | some k => K (.pointer (some ⟨h.length, 0, none⟩)) (h ++ [some ⟨k.zero, t, false, true⟩]) | none => False
theorem x_alloc (P : Program) [Laid P] (t : TypeId) (e : Env) (h : Heap) (K : Value → Heap → Prop) : opV P (.alloc t) e h K = allocK (tk P t) t K h := rfl
theorem x_allocK (k : TK) (t : TypeId) (K : Value → Heap → Prop) (h : Heap) : allocK (some k) t K h = K (.pointer (some ⟨h.length, 0, none⟩)) (h ++ [some ⟨k.zero, t, false, true⟩]) := rfl
def boxK (o : Option TK) (c : Option (List Value)) (t : TypeId) (K : Value → Heap → Prop) (h : Heap) : Prop := match o, c with | some k, some cs => cs.length = k.size ∧ K (.pointer (some ⟨h.length, 0, none⟩)) (h ++ [some ⟨cs, t, false, true⟩]) | _, _ => False
theorem x_box (P : Program) [Laid P] (t : TypeId) (x : Operand) (e : Env) (h : Heap) (K : Value → Heap → Prop) : opV P (.box t x) e h K = boxK (tk P t) (cellsV (evO e x)) t K h := rfl
theorem x_boxK (k : TK) (cs : List Value) (t : TypeId) (K : Value → Heap → Prop) (h : Heap) : boxK (some k) (some cs) t K h = (cs.length = k.size ∧ K (.pointer (some ⟨h.length, 0, none⟩)) (h ++ [some ⟨cs, t, false, true⟩])) := rfl
theorem x_nilCheck (a : Addr) : nilCheckV (.pointer (some a)) = some (.pointer (some a)) := rfl
theorem x_tuple (l : List Value) (i : Nat) : extractV (.tuple l.toArray) i = l[i]? := rfl
theorem kind_map (k : TK) : (some k).map (·.kind) = some k.kind := rfl

theorem condK_ndec {P : Program} [Laid P] {p : Prop} [Decidable p] {A B : Code} {e : Env} {h : Heap} {Q : VX → Env → Heap → Prop} (h1 : ¬ p → wpV P A e h Q) (h2 : p → wpV P B e h Q) : condK P (.bool !decide p) A B e h Q :=
  condK_intro (fun hb => h1 (by simpa using hb)) (fun hb => h2 (by simpa using hb))

/-- One element is written. -/
theorem set_step {α : Type} [Rep α] {el : TypeId} {h : Heap} {l : List α} {v : Value} {fp : List Nat} {cs : List Value} {f : List Nat} {i : Nat} {y : α} {K : Value → Heap → Prop}
    (ov : Own el h l v fp) (hi : i < l.length) (hy : Rep.rep h y cs f) (hd : ∀ b ∈ f, b ∉ fp) (hf : f.Nodup)
    (next : ∀ h' fp', Own el h' (l.set i y) v fp' → Chg [rowB v] h h' → rowB v ∈ fp → (∀ b ∈ fp', b ∈ fp ∨ b ∈ f) → K UN h') : stK (writeB h (rowB v) (rowO v + i * Rep.sz α) cs) K := by
  obtain ⟨h', fp', e, o, c, _, m⟩ := own_set ov hi hy hd hf
  rw [e]
  refine next h' fp' o c ?_ m
  rcases ov.cases with ⟨_, rfl, _⟩ | ⟨b, off, cap, kb, fps, rfl, _, _, _, _, _, rfl, _⟩
  · simp at hi
  · simp [rowB]

theorem fill_one {α : Type} {l : List α} {i m : Nat} {x z : α} (hx : l[i]? = some x) : (l.take i ++ List.replicate (m + 1) z).set i x = l.take (i + 1) ++ List.replicate m z := by
  have hi := (List.getElem?_eq_some_iff.1 hx).1
  have hl : (l.take i).length = i := by rw [List.length_take]; omega
  rw [List.set_append_right _ _ (by omega), hl, Nat.sub_self, List.replicate_succ, List.set_cons_zero, List.take_add_one, hx]
  simp
theorem fill_two {α : Type} {l : List α} {j m : Nat} {f z : α} : (l ++ List.replicate j f ++ List.replicate (m + 1) z).set (l.length + j) f = l ++ List.replicate (j + 1) f ++ List.replicate m z := by
  have hl : (l ++ List.replicate j f).length = l.length + j := by simp
  rw [List.set_append_right _ _ (by omega), hl, Nat.sub_self, List.replicate_succ (n := m), List.set_cons_zero, List.replicate_succ' (n := j)]
  simp

/-- How much room the harness leaves behind a list. -/
def roomM (n : Nat) : Nat := if n % 6 = 5 then 0 else if n % 3 = 0 then 1 else n
theorem roomM_le (n : Nat) : roomM n ≤ n + 1 := by unfold roomM; split; omega; split <;> omega
theorem tmod_nat (n m : Nat) : Int.tmod (n : Int) (m : Int) = ((n % m : Nat) : Int) := by rw [Int.tmod_eq_emod_of_nonneg (by omega)]; rfl

/-- A list with room behind it, as the harness lays it. -/
def Gave {α : Type} [Rep α] (lo : Nat) (el : TypeId) (h : Heap) (l : List α) (fill : α) (v : Value) : Prop :=
  ∃ vf fp, Own el h (l ++ List.replicate (roomM l.length) fill) vf fp ∧ (∀ b ∈ fp, lo ≤ b) ∧ v = cutV vf (Rep.sz α) 0 l.length ∧ rowC vf = l.length + roomM l.length
theorem Gave.row {α : Type} [Rep α] {lo : Nat} {el : TypeId} {h : Heap} {l : List α} {fill : α} {v : Value} (g : Gave lo el h l fill v) : Row h l v := by
  obtain ⟨vf, fp, o, _, rfl, _⟩ := g
  have := o.toRow.cut (lo := 0) (m := l.length) (Nat.zero_le _) (by simp)
  simpa using this
theorem Gave.mono {α : Type} [Rep α] {lo : Nat} {el : TypeId} {h h' : Heap} {l : List α} {fill : α} {v : Value} (g : Gave lo el h l fill v) (e : Ext h h') : Gave lo el h' l fill v := by
  obtain ⟨vf, fp, o, h1, h2⟩ := g
  exact ⟨vf, fp, o.frame fun b hb => e.eq b (o.live b hb), h1, h2⟩
/-- The list with all its room. -/
theorem Gave.all {α : Type} [Rep α] {lo : Nat} {el : TypeId} {h : Heap} {l : List α} {fill : α} {v : Value} (g : Gave lo el h l fill v) : rowC v = l.length + roomM l.length ∧ Row h (l ++ List.replicate (roomM l.length) fill) (cutV v (Rep.sz α) 0 (l.length + roomM l.length)) := by
  obtain ⟨vf, fp, o, h1, rfl, hc⟩ := g
  have hr := o.toRow.cut (lo := 0) (m := l.length + roomM l.length) (Nat.zero_le _) (by simp)
  have he : (l ++ List.replicate (roomM l.length) fill).take (l.length + roomM l.length) = l ++ List.replicate (roomM l.length) fill := List.take_of_length_le (by simp)
  rw [he, List.drop_zero] at hr
  rcases o.isRow with ⟨rfl, hn⟩ | ⟨b, off, cap, rfl, hle⟩
  · simp only [rowC] at hc
    exact ⟨by simp only [cutV, rowC]; omega, by simpa [cutV] using hr⟩
  · simp only [rowC] at hc
    refine ⟨by simp only [cutV, rowC]; omega, ?_⟩
    simpa [cutV] using hr

/-- append_elems, where the heap is told in one list. -/
theorem append_at {α : Type} [Rep α] {P : Program} {t el : TypeId} {k : TK} {h H : Heap} {l : List α} (ys : List α) {v : Value} {fp : List Nat} {cs : List Value} {gps : List (List Nat)} {n idx : Nat} {ty : TypeId} {ro ex : Bool} {K : Value → Heap → Prop}
    (ov : Own el h l v fp) (hc : Cells h ys cs gps) (hH : H = h ++ [some ⟨cs, ty, ro, ex⟩]) (hi : idx = h.length) (ht : tElem P t = some el) (hk : tk P el = some k) (hs : k.size = Rep.sz α)
    (hd : (fp ++ gps.flatten).Nodup) (hn : ys.length = n) (hb0 : 0 < k.bytes) (hb : (l.length + n) * k.bytes ≤ 140737488355328)
    (next : ∀ v' h' fp', Own el h' (l ++ ys) v' fp' → Chg fp h h' → (∀ b ∈ fp', b ∈ fp ∨ b ∈ gps.flatten ∨ h.length ≤ b) → K v' h') :
    optH (appendV P t v (.slice (some ⟨idx, 0, none⟩) n n) H) K := by
  subst hH; subst hi
  exact append_elems ys ov ht hk hs hc hd hn hb0 hb next
theorem snoc2 (h : Heap) (a b : Option Blk) : h ++ [a, b] = (h ++ [a]) ++ [b] := by simp
theorem snoc3 (h : Heap) (a b c : Option Blk) : h ++ [a, b, c] = (h ++ [a, b]) ++ [c] := by simp
theorem snoc4 (h : Heap) (a b c d : Option Blk) : h ++ [a, b, c, d] = (h ++ [a, b, c]) ++ [d] := by simp
theorem len1 (h : Heap) (a : Option Blk) : h.length + 1 = (h ++ [a]).length := by simp
theorem len2 (h : Heap) (a b : Option Blk) : h.length + 2 = (h ++ [a, b]).length := by simp
theorem len3 (h : Heap) (a b c : Option Blk) : h.length + 3 = (h ++ [a, b, c]).length := by simp
theorem Own.ext {α : Type} [Rep α] {el : TypeId} {h h' : Heap} {l : List α} {v : Value} {fp : List Nat} (o : Own el h l v fp) (e : Ext h h') : Own el h' l v fp := o.frame fun b hb => e.eq b (o.live b hb)
/-- Another row stays as it is. -/
theorem Own.other {α : Type} [Rep α] {el : TypeId} {h h' : Heap} {l : List α} {v : Value} {fp S : List Nat} (o : Own el h l v fp) (c : Chg S h h') (hd : ∀ b ∈ fp, b ∉ S) : Own el h' l v fp := o.frame fun b hb => c.eq b (o.live b hb) (hd b hb)

theorem row_str {h : Heap} {l : List ByteArray} {v : Value} (hr : Row h l v) {i : Nat} {x : ByteArray} (hx : l[i]? = some x) : getC h (rowB v) (rowO v + i) = some (.string x) ∧ x.size ≤ 9223372036854775807 := by
  obtain ⟨xs, hc, fp, h1, _, h2⟩ := hr.at hx
  subst h1
  have := cellsAt_getC hc 0 (by decide)
  have e : Rep.sz ByteArray = 1 := rfl
  rw [e, Nat.mul_one] at this
  exact ⟨this, h2⟩
theorem rep_str {h : Heap} {x : ByteArray} (hx : x.size ≤ 9223372036854775807) : Rep.rep h x [.string x] [] := ⟨rfl, rfl, hx⟩
theorem row_int {h : Heap} {l : List Int} {v : Value} (hr : Row h l v) {i : Nat} {x : Int} (hx : l[i]? = some x) : getC h (rowB v) (rowO v + i) = some (.int .i64 x) ∧ inI64 x := by
  obtain ⟨xs, hc, fp, h1, _, h2⟩ := hr.at hx
  subst h1
  have := cellsAt_getC hc 0 (by decide)
  have e : Rep.sz Int = 1 := rfl
  rw [e, Nat.mul_one] at this
  exact ⟨this, h2⟩
theorem rep_int {h : Heap} {x : Int} (hx : inI64 x) : Rep.rep h x [.int .i64 x] [] := ⟨rfl, rfl, hx⟩
theorem str_add (a b : ByteArray) (h : a.size + b.size ≤ 9223372036854775807) : strV .add a b = some (.string (a ++ b)) := by
  unfold strV
  have : IntKind.i64.max = 9223372036854775807 := by decide
  rw [this, if_neg (by omega)]
theorem size_append (a b : ByteArray) : (a ++ b).size = a.size + b.size := ByteArray.size_append

theorem beq_bytes (a b : ByteArray) : (a.toList == b.toList) = decide (a = b) := by
  rw [Bool.eq_iff_iff, beq_iff_eq, decide_eq_true_eq]
  constructor
  · intro h
    rw [ByteArray.toList_eq, ByteArray.toList_eq] at h
    cases a; cases b
    congr 1
    exact Array.ext' h
  · rintro rfl; rfl
theorem str_eql (a b : ByteArray) : strV .eql a b = some (.bool (decide (a = b))) := by rw [← beq_bytes]; rfl
theorem str_neq (a b : ByteArray) : strV .neq a b = some (.bool !decide (a = b)) := by rw [← beq_bytes]; rfl

def VY := And.intro @x_field (And.intro @x_part (And.intro @x_store (And.intro @c_int (And.intro @c_bool (And.intro @c_string (And.intro @c_slice (And.intro @c_pointer (And.intro @c_agg (And.intro @c_nilIface (And.intro @c_iface (And.intro @t_getC0 (And.intro @t_getC (And.intro @t_topC (And.intro @t_cellsAt0 (And.intro @t_cellsAt (And.intro @t_topA (And.intro @t_write (And.intro @t_write0 (And.intro @t_topW (And.intro @t_put (And.intro @x_build (And.intro @x_fill_nil (And.intro @x_fill (And.intro @x_fillK (And.intro @x_fieldPl (And.intro @x_buildSlice (And.intro @x_rep0 (And.intro @x_rep (And.intro @x_alloc (And.intro @x_allocK (And.intro @x_box (And.intro @x_boxK (And.intro @x_nilCheck (And.intro @x_tuple (And.intro @hi_none (And.intro @hi_some (And.intro @lo_none (And.intro @lo_some (And.intro @bound_in (And.intro @if_le (And.intro @str_add (And.intro @str_eql (And.intro @str_neq (@s_sl_str))))))))))))))))))))))))))))))))))))))))))))
end Go.V

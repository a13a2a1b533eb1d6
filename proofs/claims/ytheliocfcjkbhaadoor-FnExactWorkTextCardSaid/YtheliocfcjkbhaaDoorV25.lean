/- The layer V, part 25: what the harness of the laws lays (lists with room behind them, at all depths), and sizes. -/
import Derived.Test.YtheliocfcjkbhaaDoorV24
set_option linter.all false
namespace Go.V
open Go Go.RowKit

/-- As the harness lays it; the first word: are empty lists nil? -/
class Giv (α : Type) [Rep α] where
  giv : Bool → Heap → α → List Value → List Nat → Prop
  frame : ∀ {b h h' x cs fp}, giv b h x cs fp → (∀ c ∈ fp, getB h' c = getB h c) → giv b h' x cs fp
  live : ∀ {b h x cs fp}, giv b h x cs fp → ∀ c ∈ fp, c < h.length
  rep : ∀ {b h x cs fp}, giv b h x cs fp → ∃ fp', Rep.rep h x cs fp' ∧ (∀ c ∈ fp', c ∈ fp) ∧ (fp.Nodup → fp'.Nodup)
  fill : α

@[reducible] def Giv.base {α : Type} [Rep α] (x : α) : Giv α where
  giv := fun _ h x cs fp => Rep.rep h x cs fp
  frame := fun h hf => Rep.frame h hf
  live := fun h => Rep.live h
  rep := fun h => ⟨_, h, fun _ h => h, id⟩
  fill := x
instance : Giv Int := Giv.base (-7000000000000000101)
instance : Giv Bool := Giv.base false
instance {α β : Type} [Rep α] [Rep β] [Giv α] [Giv β] : Giv (α × β) where
  giv := fun b h x cs fp => ∃ c1 c2 f1 f2, cs = c1 ++ c2 ∧ fp = f1 ++ f2 ∧ Giv.giv b h x.1 c1 f1 ∧ Giv.giv b h x.2 c2 f2
  frame := fun ⟨c1, c2, f1, f2, e1, e2, h1, h2⟩ hf => ⟨c1, c2, f1, f2, e1, e2, Giv.frame h1 fun b hb => hf b (by rw [e2]; simp [hb]), Giv.frame h2 fun b hb => hf b (by rw [e2]; simp [hb])⟩
  live := fun ⟨c1, c2, f1, f2, e1, e2, h1, h2⟩ b hb => by
    rw [e2] at hb
    rcases List.mem_append.1 hb with hb | hb
    · exact Giv.live h1 b hb
    · exact Giv.live h2 b hb
  rep := fun ⟨c1, c2, f1, f2, e1, e2, h1, h2⟩ => by
    obtain ⟨g1, r1, s1, n1⟩ := Giv.rep h1
    obtain ⟨g2, r2, s2, n2⟩ := Giv.rep h2
    refine ⟨g1 ++ g2, ⟨c1, c2, g1, g2, e1, rfl, r1, r2⟩, fun c hc => ?_, fun hd => ?_⟩
    · rw [e2]
      rcases List.mem_append.1 hc with hc | hc
      · simp [s1 c hc]
      · simp [s2 c hc]
    · rw [e2] at hd
      have hd' := List.nodup_append.1 hd
      exact List.nodup_append.2 ⟨n1 hd'.1, n2 hd'.2.1, fun x hx y hy e => hd'.2.2 x (s1 x hx) y (s2 y hy) e⟩
  fill := (Giv.fill, Giv.fill)
@[reducible] def Giv.iso {α β : Type} [Rep α] [Giv α] (f : β → α) (x : β) : @Giv β (Rep.iso f) :=
  letI := Rep.iso f
  { giv := fun b h x cs fp => Giv.giv b h (f x) cs fp
    frame := fun h hf => Giv.frame h hf
    live := fun h => Giv.live h
    rep := fun {b h y cs fp} hr => Giv.rep (x := f y) hr
    fill := x }

/-- One that the harness has laid, or a plain one. -/
structure Gd (bare : Bool) (α : Type) where
  given : Bool
  x : α
instance {bare : Bool} {α : Type} [Rep α] [Giv α] : Rep (Gd bare α) where
  sz := Rep.sz α
  rep := fun h g cs fp => if g.given = true then Giv.giv bare h g.x cs fp else Rep.rep h g.x cs fp
  len := fun {h g cs fp} hr => by
    split at hr
    · obtain ⟨fp', r, _⟩ := Giv.rep hr
      exact Rep.len r
    · exact Rep.len hr
  frame := fun {h h' g cs fp} hr hf => by
    split at hr
    · rename_i c; rw [if_pos c]; exact Giv.frame hr hf
    · rename_i c; rw [if_neg c]; exact Rep.frame hr hf
  live := fun {h g cs fp} hr => by
    split at hr
    · exact Giv.live hr
    · exact Rep.live hr
theorem Gd.sz {bare : Bool} {α : Type} [Rep α] [Giv α] : Rep.sz (Gd bare α) = Rep.sz α := rfl
theorem Gd.toRep {bare : Bool} {α : Type} [Rep α] [Giv α] {h : Heap} {g : Gd bare α} {cs : List Value} {fp : List Nat} (hr : Rep.rep h g cs fp) : ∃ fp', Rep.rep h g.x cs fp' ∧ (∀ c ∈ fp', c ∈ fp) ∧ (fp.Nodup → fp'.Nodup) := by
  have hr' : if g.given = true then Giv.giv bare h g.x cs fp else Rep.rep h g.x cs fp := hr
  split at hr'
  · exact Giv.rep hr'
  · exact ⟨fp, hr', fun _ h => h, id⟩
theorem Gd.toCells {bare : Bool} {α : Type} [Rep α] [Giv α] {h : Heap} : ∀ {l : List (Gd bare α)} {cs : List Value} {fps : List (List Nat)}, Cells h l cs fps → ∃ gps, Cells h (l.map (·.x)) cs gps ∧ (∀ c ∈ gps.flatten, c ∈ fps.flatten) ∧ (fps.flatten.Nodup → gps.flatten.Nodup) := by
  intro l
  induction l with
  | nil => rintro cs fps ⟨rfl, rfl⟩; exact ⟨[], ⟨rfl, rfl⟩, by simp, by simp⟩
  | cons g l ih =>
    rintro cs fps ⟨c, f, cs', fps', rfl, rfl, hr, hc⟩
    obtain ⟨f2, r2, s2, n2⟩ := Gd.toRep hr
    obtain ⟨gps, c3, s3, n3⟩ := ih hc
    refine ⟨f2 :: gps, ⟨c, f2, cs', gps, rfl, rfl, r2, c3⟩, fun x hx => ?_, fun hd => ?_⟩
    · rw [List.flatten_cons] at hx ⊢
      rcases List.mem_append.1 hx with hx | hx
      · exact List.mem_append_left _ (s2 x hx)
      · exact List.mem_append_right _ (s3 x hx)
    · rw [List.flatten_cons] at hd ⊢
      have hd' := List.nodup_append.1 hd
      exact List.nodup_append.2 ⟨n2 hd'.1, n3 hd'.2.1, fun x hx y hy e => hd'.2.2 x (s2 x hx) y (s3 y hy) e⟩
theorem Gd.toRow {bare : Bool} {α : Type} [Rep α] [Giv α] {h : Heap} {l : List (Gd bare α)} {v : Value} {fp : List Nat} (hr : rowRep h l v fp) : ∃ fp', rowRep h (l.map (·.x)) v fp' ∧ (∀ c ∈ fp', c ∈ fp) ∧ (fp.Nodup → fp'.Nodup) := by
  obtain ⟨h1, h2, h3⟩ := hr
  rcases h3 with ⟨rfl, rfl⟩ | ⟨cs, fps, hne, hc, rfl, hcs⟩
  · exact ⟨[], ⟨h1, h2, .inl ⟨rfl, rfl⟩⟩, by simp, by simp⟩
  · obtain ⟨gps, c3, s3, n3⟩ := Gd.toCells hcs
    refine ⟨rowB v :: gps.flatten, ⟨by simpa using h1, by simpa using h2, .inr ⟨cs, gps, hne, by rw [List.length_map]; exact hc, rfl, c3⟩⟩, fun c hx => ?_, fun hd => ?_⟩
    · rcases List.mem_cons.1 hx with rfl | hx
      · simp
      · exact List.mem_cons_of_mem _ (s3 c hx)
    · have hd' := List.nodup_cons.1 hd
      exact List.nodup_cons.2 ⟨fun hm => hd'.1 (s3 _ hm), n3 hd'.2⟩
theorem Gd.row {bare : Bool} {α : Type} [Rep α] [Giv α] {h : Heap} {l : List (Gd bare α)} {v : Value} (hr : Row h l v) : Row h (l.map (·.x)) v := by
  obtain ⟨fp, hr⟩ := hr
  obtain ⟨fp', r, _⟩ := Gd.toRow hr
  exact ⟨fp', r⟩

/-- All that the harness lays for a list. -/
def gdAll (bare : Bool) {α : Type} [Rep α] [Giv α] (l : List α) : List (Gd bare α) := l.map (fun x => ⟨true, x⟩) ++ List.replicate (roomM l.length) ⟨false, Giv.fill⟩
theorem gdAll_x {bare : Bool} {α : Type} [Rep α] [Giv α] (l : List α) : (gdAll bare l).map (·.x) = l ++ List.replicate (roomM l.length) Giv.fill := by
  simp [gdAll, Function.comp_def]
theorem gdAll_length {bare : Bool} {α : Type} [Rep α] [Giv α] (l : List α) : (gdAll bare l).length = l.length + roomM l.length := by simp [gdAll]
theorem gdAll_take {bare : Bool} {α : Type} [Rep α] [Giv α] (l : List α) : (gdAll bare l).take l.length = l.map (fun x => ⟨true, x⟩) := by
  unfold gdAll; rw [List.take_left' (by simp)]
theorem gdAll_drop {bare : Bool} {α : Type} [Rep α] [Giv α] (l : List α) : (gdAll bare l).drop l.length = List.replicate (roomM l.length) ⟨false, Giv.fill⟩ := by
  unfold gdAll; rw [List.drop_left' (by simp)]
def givL (bare : Bool) {α : Type} [Rep α] [Giv α] (h : Heap) (l : List α) (v : Value) (fp : List Nat) : Prop :=
  (bare = true ∧ l = [] ∧ v = .slice none 0 0 ∧ fp = []) ∨ ∃ vf el, Own el h (gdAll bare l) vf fp ∧ v = cutV vf (Rep.sz α) 0 l.length ∧ rowC vf = l.length + roomM l.length
theorem givL.row {bare : Bool} {α : Type} [Rep α] [Giv α] {h : Heap} {l : List α} {v : Value} {fp : List Nat} (g : givL bare h l v fp) : ∃ fp', rowRep h l v fp' ∧ (∀ c ∈ fp', c ∈ fp) ∧ (fp.Nodup → fp'.Nodup) := by
  rcases g with ⟨_, rfl, rfl, rfl⟩ | ⟨vf, el, o, rfl, hc⟩
  · exact ⟨[], ⟨.inl ⟨rfl, rfl⟩, by simp, .inl ⟨rfl, rfl⟩⟩, by simp, by simp⟩
  · obtain ⟨f1, r1, s1, n1⟩ := Gd.toRow o.row
    rw [gdAll_x] at r1
    obtain ⟨f2, r2, s2, n2⟩ := r1.cut (lo := 0) (m := l.length) (Nat.zero_le _) (by simp)
    rw [List.take_left' rfl, List.drop_zero] at r2
    exact ⟨f2, r2, fun c hc => s1 c (s2 c hc), fun hd => n2 (n1 hd)⟩
instance {α : Type} [Rep α] [Giv α] : Giv (List α) where
  giv := fun b h l cs fp => ∃ v, cs = [v] ∧ givL b h l v fp
  frame := fun {b h h' l cs fp} ⟨v, e, g⟩ hf => ⟨v, e, by
    rcases g with g | ⟨vf, el, o, g⟩
    · exact .inl g
    · exact .inr ⟨vf, el, o.frame hf, g⟩⟩
  live := fun {b h l cs fp} ⟨v, e, g⟩ c hc => by
    rcases g with ⟨_, _, _, rfl⟩ | ⟨vf, el, o, g⟩
    · simp at hc
    · exact o.live c hc
  rep := fun {b h l cs fp} ⟨v, e, g⟩ => by
    obtain ⟨f, r, s⟩ := g.row
    exact ⟨f, ⟨v, e, r⟩, s⟩
  fill := [Giv.fill]

def givA (bare : Bool) {α : Type} [Rep α] [Giv α] (x : α) (cs : List Value) : Asr := ⟨fun h fp => Giv.giv bare h x cs fp, fun o hf => Giv.frame o hf, fun o => Giv.live o⟩
/-- As the harness laid it; where it lies doesn't matter. -/
def GivH {α : Type} [Rep α] [Giv α] (h : Heap) (x : α) (cs : List Value) : Prop := ∃ fp, Giv.giv false h x cs fp
section
variable {α : Type} [Rep α] [Giv α] {bare : Bool} {a h h' : Heap} {L : List Asr} {x : α} {l : List α} {cs : List Value} {v : Value}
theorem Sep.gRep (s : Sep a h (givA bare x cs :: L)) : Sep a h (repA x cs :: L) := s.to fun fp o hd => by
  obtain ⟨f, r, s, n⟩ := Giv.rep o
  exact ⟨f, r, n hd, s⟩
theorem Sep.gHere (s : Sep a h (givA bare x cs :: L)) : Here h x cs := s.gRep.here
theorem Sep.gGiv (s : Sep a h (givA false x cs :: L)) : GivH h x cs := by obtain ⟨fp, o, _⟩ := s.get; exact ⟨fp, o⟩
theorem GivH.mono (g : GivH h x cs) (e : Ext h h') : GivH h' x cs := by obtain ⟨fp, o⟩ := g; exact ⟨fp, Giv.frame o fun b hb => e.eq b (Giv.live o b hb)⟩
theorem GivH.here (g : GivH h x cs) : Here h x cs := by obtain ⟨fp, o⟩ := g; obtain ⟨f, r, _⟩ := Giv.rep o; exact ⟨f, r⟩
theorem Sep.gGd (s : Sep a h (givA bare x cs :: L)) : Sep a h (repA (⟨true, x⟩ : Gd bare α) cs :: L) := s.to fun fp o hd => ⟨fp, by show (if True then Giv.giv bare h x cs fp else Rep.rep h x cs fp); rw [if_pos trivial]; exact o, hd, fun _ h => h⟩
theorem Sep.rGd (s : Sep a h (repA x cs :: L)) : Sep a h (repA (⟨false, x⟩ : Gd bare α) cs :: L) := s.to fun fp o hd => ⟨fp, o, hd, fun _ h => h⟩
/-- What the harness has laid, whole. -/
theorem Sep.givL {el : TypeId} {vf : Value} (s : Sep a h (ownA el (gdAll bare l) vf :: L)) (hc : rowC vf = l.length + roomM l.length) : Sep a h (givA bare l [cutV vf (Rep.sz α) 0 l.length] :: L) :=
  s.to fun fp o hd => ⟨fp, ⟨_, rfl, .inr ⟨vf, el, o, rfl, hc⟩⟩, hd, fun _ h => h⟩
theorem Sep.givNil (e : Ext a h) : Sep a h [givA true ([] : List α) [.slice none 0 0]] := (Sep.nil e).flat ⟨_, rfl, .inl ⟨rfl, rfl, rfl, rfl⟩⟩

/-- A list as the harness laid it: all its room, and each element. -/
theorem GivH.all (g : GivH h l [v]) : rowC v = l.length + roomM l.length ∧ Row h (gdAll false l) (cutV v (Rep.sz α) 0 (l.length + roomM l.length)) := by
  obtain ⟨fp, v', e, g⟩ := g
  obtain rfl : v = v' := by simpa using e
  rcases g with ⟨h1, _⟩ | ⟨vf, el, o, rfl, hc⟩
  · simp at h1
  · have hr := o.toRow.cut (lo := 0) (m := l.length + roomM l.length) (Nat.zero_le _) (by rw [gdAll_length]; omega)
    rw [List.take_of_length_le (Nat.le_of_eq (gdAll_length l)), List.drop_zero] at hr
    rcases o.isRow with ⟨rfl, hn⟩ | ⟨b, off, cap, rfl, hle⟩
    · simp only [rowC] at hc
      exact ⟨by simp only [cutV, rowC]; omega, by simpa [cutV] using hr⟩
    · simp only [rowC] at hc
      exact ⟨by simp only [cutV, rowC]; omega, by simpa [cutV] using hr⟩
theorem GivH.row (g : GivH h l [v]) : Row h l v := by
  obtain ⟨fp, v', e, g⟩ := g
  obtain rfl : v = v' := by simpa using e
  obtain ⟨f, r, _⟩ := g.row
  exact ⟨f, r⟩
theorem GivH.at (g : GivH h l [v]) {i : Nat} {y : α} (hy : l[i]? = some y) : ∃ xs, cellsAt h (rowB v) (rowO v + i * Rep.sz α) (Rep.sz α) = some xs ∧ GivH h y xs := by
  obtain ⟨fp, v', e, g⟩ := g
  obtain rfl : v = v' := by simpa using e
  have hi := (List.getElem?_eq_some_iff.1 hy).1
  rcases g with ⟨h1, _⟩ | ⟨vf, el, o, rfl, hc⟩
  · simp at h1
  · have hr := o.toRow.cut (lo := 0) (m := l.length) (Nat.zero_le _) (by rw [gdAll_length]; omega)
    rw [gdAll_take, List.drop_zero] at hr
    obtain ⟨xs, h1, fp', h2⟩ := hr.at (i := i) (x := ⟨true, y⟩) (by simp [hy])
    refine ⟨xs, h1, fp', ?_⟩
    have h3 : if True then Giv.giv false h y xs fp' else Rep.rep h y xs fp' := h2
    rwa [if_pos trivial] at h3
end

/-- How many cells and letters the harness counts. -/
class Siz (α : Type) where
  siz : α → Nat
instance : Siz Int := ⟨fun _ => 0⟩
instance : Siz Bool := ⟨fun _ => 0⟩
instance : Siz ByteArray := ⟨fun x => x.size⟩
instance {α : Type} [Siz α] : Siz (List α) := ⟨fun l => l.length + (l.map Siz.siz).sum⟩
def szR (left : Int) (n : Nat) : Int := if left < n then -1 else left - n
theorem siz_list {α : Type} [Siz α] (l : List α) : Siz.siz l = l.length + (l.map Siz.siz).sum := rfl
theorem siz_mem {α : Type} [Siz α] {l : List α} {i : Nat} {x : α} (hx : l[i]? = some x) : Siz.siz x ≤ (l.map Siz.siz).sum := by
  induction l generalizing i with
  | nil => simp at hx
  | cons y l ih =>
    cases i with
    | zero => simp at hx; subst hx; simp
    | succ i => have := ih (i := i) (by simpa using hx); simp; omega
theorem siz_take {α : Type} [Siz α] {l : List α} {i : Nat} {x : α} (hx : l[i]? = some x) : ((l.take (i + 1)).map Siz.siz).sum = ((l.take i).map Siz.siz).sum + Siz.siz x := by
  rw [List.take_add_one, hx]; simp
theorem siz_take_le {α : Type} [Siz α] (l : List α) (i : Nat) : ((l.take i).map Siz.siz).sum ≤ (l.map Siz.siz).sum := by
  have : (l.map Siz.siz).sum = ((l.take i).map Siz.siz).sum + ((l.drop i).map Siz.siz).sum := by
    rw [← List.sum_append, ← List.map_append, List.take_append_drop]
  omega
theorem siz_zero {α : Type} [Siz α] (h : ∀ x : α, Siz.siz x = 0) (l : List α) : Siz.siz l = l.length := by
  rw [siz_list]
  have : (l.map Siz.siz).sum = 0 := by
    induction l with
    | nil => rfl
    | cons y l ih => simp [h, ih]
  omega
/-- The lists that the loops of the harness go through. -/
theorem gd_one {bare : Bool} {α : Type} {l : List α} {i m : Nat} {x z : α} (hx : l[i]? = some x) : ((l.take i).map (fun x => (⟨true, x⟩ : Gd bare α)) ++ List.replicate (m + 1) (⟨false, z⟩ : Gd bare α)).set i (⟨true, x⟩ : Gd bare α) = (l.take (i + 1)).map (fun x => (⟨true, x⟩ : Gd bare α)) ++ List.replicate m (⟨false, z⟩ : Gd bare α) := by
  have := fill_one (l := l.map (fun x => (⟨true, x⟩ : Gd bare α))) (i := i) (m := m) (x := (⟨true, x⟩ : Gd bare α)) (z := (⟨false, z⟩ : Gd bare α)) (by simp [hx])
  simpa only [List.map_take] using this
theorem gd_two {bare : Bool} {α : Type} {l : List α} {j m : Nat} {f z : α} : (l.map (fun x => (⟨true, x⟩ : Gd bare α)) ++ List.replicate j (⟨false, f⟩ : Gd bare α) ++ List.replicate (m + 1) (⟨false, z⟩ : Gd bare α)).set (l.length + j) (⟨false, f⟩ : Gd bare α) = l.map (fun x => (⟨true, x⟩ : Gd bare α)) ++ List.replicate (j + 1) (⟨false, f⟩ : Gd bare α) ++ List.replicate m (⟨false, z⟩ : Gd bare α) := by
  have := fill_two (l := l.map (fun x => (⟨true, x⟩ : Gd bare α))) (j := j) (m := m) (f := (⟨false, f⟩ : Gd bare α)) (z := (⟨false, z⟩ : Gd bare α))
  simpa using this

theorem szR_lt {left : Int} {n : Nat} (c : left < n) : szR left n = -1 := if_pos c
theorem szR_ge {left : Int} {n : Nat} (c : ¬ left < n) : szR left n = left - n := if_neg c

/-! ### blocks of this function's own -/
def blkA (b : Nat) (cs : List Value) (ty : TypeId) : Asr := ⟨fun h fp => fp = [b] ∧ ∃ ex, getB h b = some ⟨cs, ty, false, ex⟩,
  fun ⟨e, ex, hg⟩ hf => ⟨e, ex, (hf b (by rw [e]; simp)).trans hg⟩, fun ⟨e, ex, hg⟩ c hc => by rw [e] at hc; simp only [List.mem_singleton] at hc; subst hc; exact getB_lt hg⟩
section
variable {a h h' : Heap} {L : List Asr} {b : Nat} {cs : List Value} {ty : TypeId}
theorem Sep.newBlk (s : Sep a h L) (cs : List Value) (ty : TypeId) (ex : Bool) : Sep a (h ++ [some ⟨cs, ty, false, ex⟩]) (blkA h.length cs ty :: L) :=
  s.add (M := [blkA h.length cs ty]) ⟨.one _ _, [h.length], ⟨[h.length], [], rfl, ⟨rfl, ex, getB_append_new⟩, rfl⟩, by simp, fun b hb => by
    simp only [List.mem_singleton] at hb
    subst hb
    exact ⟨Nat.le_refl _, _, getB_append_new, rfl⟩⟩
theorem Sep.blk1 (h : Heap) (c1 : List Value) (t1 : TypeId) (x1 : Bool) : Sep h (h ++ [some ⟨c1, t1, false, x1⟩]) [blkA h.length c1 t1] := (Sep.nil (.refl h)).newBlk c1 t1 x1
theorem Sep.blk2 (h : Heap) (c1 c2 : List Value) (t1 t2 : TypeId) (x1 x2 : Bool) : Sep h (h ++ [some ⟨c1, t1, false, x1⟩, some ⟨c2, t2, false, x2⟩]) [blkA (h.length + 1) c2 t2, blkA h.length c1 t1] := by
  have := (Sep.blk1 h c1 t1 x1).newBlk c2 t2 x2
  simpa using this
theorem Sep.blk3 (h : Heap) (c1 c2 c3 : List Value) (t1 t2 t3 : TypeId) (x1 x2 x3 : Bool) : Sep h (h ++ [some ⟨c1, t1, false, x1⟩, some ⟨c2, t2, false, x2⟩, some ⟨c3, t3, false, x3⟩]) [blkA (h.length + 2) c3 t3, blkA (h.length + 1) c2 t2, blkA h.length c1 t1] := by
  have := (Sep.blk2 h c1 c2 t1 t2 x1 x2).newBlk c3 t3 x3
  simpa using this
theorem Sep.pull (s : Sep a h L) (i : Nat) {x : Asr} (hx : L[i]? = some x) : Sep a h (x :: L.eraseIdx i) := by
  obtain ⟨e0, fp, s, hd, hn⟩ := s
  obtain ⟨fp', s', hp⟩ : ∃ fp', SepF h (x :: L.eraseIdx i) fp' ∧ fp'.Perm fp := by
    clear hd hn e0
    induction L generalizing i fp with
    | nil => simp at hx
    | cons y L ih =>
      obtain ⟨f, g, rfl, hy, s⟩ := s
      cases i with
      | zero =>
        obtain rfl : y = x := by simpa using hx
        exact ⟨f ++ g, ⟨f, g, rfl, hy, s⟩, List.Perm.refl _⟩
      | succ i =>
        obtain ⟨fp', ⟨f2, g2, rfl, hx2, s2⟩, hp⟩ := ih i (by simpa using hx) g s
        refine ⟨f2 ++ (f ++ g2), ⟨f2, f ++ g2, rfl, hx2, f, g2, rfl, hy, s2⟩, ?_⟩
        have h1 : (f2 ++ (f ++ g2)).Perm (f ++ (f2 ++ g2)) := by
          rw [← List.append_assoc, ← List.append_assoc]
          exact List.Perm.append_right _ List.perm_append_comm
        exact h1.trans (List.Perm.append_left _ hp)
  exact ⟨e0, fp', s', hp.nodup_iff.2 hd, fun b hb => hn b (hp.mem_iff.1 hb)⟩
theorem Sep.blk (s : Sep a h (blkA b cs ty :: L)) : ∃ ex, getB h b = some ⟨cs, ty, false, ex⟩ := by obtain ⟨fp, ⟨_, o⟩, _⟩ := s.get; exact o
theorem Sep.rd (s : Sep a h (blkA b cs ty :: L)) (off : Nat) : getC h b off = cs[off]? := by
  obtain ⟨ex, o⟩ := s.blk
  unfold getC; rw [o]; rfl
theorem Sep.rdA (s : Sep a h (blkA b cs ty :: L)) (off n : Nat) : cellsAt h b off n = if off + n ≤ cs.length then some ((cs.drop off).take n) else none := by
  obtain ⟨ex, o⟩ := s.blk
  unfold cellsAt; rw [o]
theorem sep_store {off : Nat} {ds : List Value} {K : Value → Heap → Prop} (s : Sep a h (blkA b cs ty :: L)) (hl : off + ds.length ≤ cs.length)
    (next : ∀ h', Sep a h' (blkA b (putCells cs off ds) ty :: L) → K UN h') : stK (writeB h b off ds) K := by
  obtain ⟨ex, o⟩ := s.blk
  have hw : writeB h b off ds = some (h.set b (some ⟨putCells cs off ds, ty, false, ex⟩)) := by
    simp only [writeB, o, Bool.not_false, Bool.true_and, decide_eq_true hl, if_true]
  have hg : getB (h.set b (some ⟨putCells cs off ds, ty, false, ex⟩)) b = some ⟨putCells cs off ds, ty, false, ex⟩ := by rw [getB_set (getB_lt o), if_pos rfl]
  rw [hw]
  refine next _ (s.put ?_)
  rintro fp ⟨rfl, _⟩ _ _
  refine ⟨[b], ⟨rfl, ex, hg⟩, by simp, ⟨by simp, fun c _ hc => by rw [getB_set (getB_lt o), if_neg (by simpa using hc)]⟩, fun c hc => ?_⟩
  simp only [List.mem_singleton] at hc
  subst hc
  exact ⟨.inl (by simp), _, hg, rfl⟩
end
section
variable {α β : Type} [Rep α] [Rep β] {a h : Heap} {L : List Asr} {x : α} {y : β} {c1 c2 cs : List Value}
theorem Sep.pair (s : Sep a h (repA x c1 :: repA y c2 :: L)) : Sep a h (repA (x, y) (c1 ++ c2) :: L) := s.both.to fun _ ⟨f, g, e, h1, h2⟩ hd => ⟨_, ⟨c1, c2, f, g, rfl, e, h1, h2⟩, hd, fun _ h => h⟩
theorem Sep.gpair [Giv α] [Giv β] {bare : Bool} (s : Sep a h (givA bare x c1 :: givA bare y c2 :: L)) : Sep a h (givA bare (x, y) (c1 ++ c2) :: L) := s.both.to fun _ ⟨f, g, e, h1, h2⟩ hd => ⟨_, ⟨c1, c2, f, g, rfl, e, h1, h2⟩, hd, fun _ h => h⟩
theorem Sep.unpair (s : Sep a h (repA (x, y) cs :: L)) : ∃ c1 c2, cs = c1 ++ c2 ∧ Sep a h (repA x c1 :: repA y c2 :: L) := by
  obtain ⟨fp, ⟨c1, c2, f, g, rfl, e, h1, h2⟩, _⟩ := s.get
  refine ⟨c1, c2, rfl, (s.to (y := bothA (repA x c1) (repA y c2)) ?_).unboth⟩
  rintro fp ⟨d1, d2, f, g, e1, rfl, k1, k2⟩ hd
  obtain ⟨rfl, rfl⟩ : c1 = d1 ∧ c2 = d2 := List.append_inj e1 (by rw [Rep.len h1, Rep.len k1])
  exact ⟨f ++ g, ⟨f, g, rfl, k1, k2⟩, hd, fun _ h => h⟩
theorem Sep.gpull [Giv α] {bare : Bool} (s : Sep a h (givA bare x cs :: L)) : cs.length = Rep.sz α := by obtain ⟨fp, o, _⟩ := s.gRep.get; exact Rep.len o
theorem Sep.rlen (s : Sep a h (repA x cs :: L)) : cs.length = Rep.sz α := by obtain ⟨fp, o, _⟩ := s.get; exact Rep.len o
theorem here_int {h : Heap} {n : Int} {cs : List Value} (hr : Here h n cs) : cs = [.int .i64 n] ∧ inI64 n := by obtain ⟨fp, rfl, _, h2⟩ := hr; exact ⟨rfl, h2⟩
theorem here_bool {h : Heap} {n : Bool} {cs : List Value} (hr : Here h n cs) : cs = [.bool n] := by obtain ⟨fp, rfl, _⟩ := hr; rfl
theorem here_str {h : Heap} {n : ByteArray} {cs : List Value} (hr : Here h n cs) : cs = [.string n] ∧ n.size ≤ 9223372036854775807 := by obtain ⟨fp, rfl, _, h2⟩ := hr; exact ⟨rfl, h2⟩
theorem here_list {h : Heap} {n : List α} {cs : List Value} (hr : Here h n cs) : ∃ v, cs = [v] ∧ Row h n v := by obtain ⟨fp, v, rfl, h2⟩ := hr; exact ⟨v, rfl, fp, h2⟩
theorem here_pair {h : Heap} {p : α × β} {cs : List Value} (hr : Here h p cs) : ∃ c1 c2, cs = c1 ++ c2 ∧ Here h p.1 c1 ∧ Here h p.2 c2 := by
  obtain ⟨fp, c1, c2, f, g, rfl, _, h1, h2⟩ := hr; exact ⟨c1, c2, rfl, ⟨f, h1⟩, ⟨g, h2⟩⟩
theorem mk_int {h : Heap} {n : Int} (hn : inI64 n) : Here h n [.int .i64 n] := ⟨[], rfl, rfl, hn⟩
theorem mk_bool {h : Heap} {n : Bool} : Here h n [.bool n] := ⟨[], rfl, rfl⟩
theorem mk_str {h : Heap} {n : ByteArray} (hn : n.size ≤ 9223372036854775807) : Here h n [.string n] := ⟨[], rfl, rfl, hn⟩
theorem mk_list {h : Heap} {n : List α} {v : Value} (hr : Row h n v) : Here h n [v] := by obtain ⟨fp, r⟩ := hr; exact ⟨fp, v, rfl, r⟩
theorem mk_pair {h : Heap} {p : α × β} (h1 : Here h p.1 c1) (h2 : Here h p.2 c2) : Here h p (c1 ++ c2) := by
  obtain ⟨f, h1⟩ := h1; obtain ⟨g, h2⟩ := h2; exact ⟨f ++ g, c1, c2, f, g, rfl, rfl, h1, h2⟩
theorem giv_pair [Giv α] [Giv β] {h : Heap} {p : α × β} {cs : List Value} (hr : GivH h p cs) : ∃ c1 c2, cs = c1 ++ c2 ∧ GivH h p.1 c1 ∧ GivH h p.2 c2 := by
  obtain ⟨fp, c1, c2, f, g, rfl, _, h1, h2⟩ := hr; exact ⟨c1, c2, rfl, ⟨f, h1⟩, ⟨g, h2⟩⟩
theorem giv_int {h : Heap} {n : Int} {cs : List Value} (hr : GivH h n cs) : cs = [.int .i64 n] ∧ inI64 n := here_int hr.here
theorem giv_bool {h : Heap} {n : Bool} {cs : List Value} (hr : GivH h n cs) : cs = [.bool n] := here_bool hr.here
theorem giv_list [Giv α] {h : Heap} {n : List α} {cs : List Value} (hr : GivH h n cs) : ∃ v, cs = [v] ∧ GivH h n [v] := by obtain ⟨fp, v, rfl, g⟩ := hr; exact ⟨v, rfl, fp, v, rfl, g⟩
theorem row_list {h : Heap} {l : List (List α)} {v : Value} (hr : Row h l v) {i : Nat} {x : List α} (hx : l[i]? = some x) : ∃ w, getC h (rowB v) (rowO v + i) = some w ∧ Row h x w := by
  obtain ⟨xs, hc, hh⟩ := hr.at hx
  obtain ⟨w, rfl, hw⟩ := here_list hh
  have := cellsAt_getC hc 0 (show 0 < 1 by decide)
  have e : Rep.sz (List α) = 1 := rfl
  rw [e, Nat.mul_one] at this
  exact ⟨w, this, hw⟩
theorem cells1 {h : Heap} {b off : Nat} {v : Value} (hc : cellsAt h b off 1 = some [v]) : getC h b off = some v := by have := cellsAt_getC hc 0 (by decide); simpa using this
end
section
variable {α β : Type} [Rep α] [Rep β] {a h : Heap} {L : List Asr} {el : TypeId} {l : List α} {v : Value} {y : α} {cs c1 c2 : List Value}
theorem rep_pair0 {p : α × β} (h1 : Rep.rep h p.1 c1 []) (h2 : Rep.rep h p.2 c2 []) : Rep.rep h p (c1 ++ c2) [] := ⟨c1, c2, [], [], rfl, rfl, h1, h2⟩
theorem rep_nil : Rep.rep h ([] : List α) [.slice none 0 0] [] := ⟨_, rfl, .inl ⟨rfl, rfl⟩, by simp, .inl ⟨rfl, rfl⟩⟩
theorem rep_bool {x : Bool} : Rep.rep h x [.bool x] [] := ⟨rfl, rfl⟩
theorem sep_set1 {i : Nat} {K : Value → Heap → Prop} (s : Sep a h (ownA el l v :: repA y cs :: L)) (h1 : Rep.sz α = 1) (hi : i < l.length)
    (next : ∀ h', Sep a h' (ownA el (l.set i y) v :: L) → K UN h') : stK (writeB h (rowB v) (rowO v + i) cs) K := by
  have := sep_set (K := K) s hi next
  rwa [h1, Nat.mul_one] at this
theorem Sep.rdAll {b n : Nat} {ty : TypeId} (s : Sep a h (blkA b cs ty :: L)) (hn : n = cs.length) : cellsAt h b 0 n = some cs := by
  subst hn
  rw [s.rdA, if_pos (by omega)]
  simp
end
end Go.V

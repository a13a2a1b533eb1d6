/- The layer V, part 28: more of appending. -/
import Derived.Test.YtheliocfcjkbhaaDoorV27
set_option linter.all false
namespace Go.V
open Go Go.RowKit

/-- Data that takes no block besides its cells. -/
class FlatT (α : Type) [Rep α] : Prop where
  flat : ∀ {h : Heap} {x : α} {cs : List Value} {fp : List Nat}, Rep.rep h x cs fp → fp = []
instance : FlatT Int := ⟨fun h => h.2.1⟩
instance : FlatT Bool := ⟨fun h => h.2⟩
instance : FlatT ByteArray := ⟨fun h => h.2.1⟩
instance : FlatT UInt8 := ⟨fun h => h.2⟩
instance {α β : Type} [Rep α] [Rep β] [FlatT α] [FlatT β] : FlatT (α × β) := ⟨fun ⟨_, _, _, _, _, e, h1, h2⟩ => by rw [e, FlatT.flat h1, FlatT.flat h2]; rfl⟩

section
variable {α : Type} [Rep α] {a h h' : Heap} {L : List Asr} {el : TypeId} {l ys : List α} {v x : Value} {y : α} {cs : List Value}
theorem Cells.flat [FlatT α] {fps : List (List Nat)} (hc : Cells h ys cs fps) : fps.flatten = [] := by
  induction ys generalizing cs fps with
  | nil => obtain ⟨rfl, rfl⟩ := hc; rfl
  | cons y ys ih =>
    obtain ⟨c, f, cs', fps', rfl, rfl, hr, hc⟩ := hc
    rw [List.flatten_cons, FlatT.flat hr, ih hc]; rfl
/-- What an append takes from a row. -/
theorem Row.rowV (r : Row h ys x) : ∃ cs fps, V.rowV h (Rep.sz α) ys.length x = some cs ∧ Cells h ys cs fps ∧ lenV x = some ys.length := by
  obtain ⟨fp, h1, h2, h3⟩ := r
  have hl : lenV x = some ys.length := by rcases h1 with ⟨rfl, hn⟩ | ⟨b, off, cap, rfl, _⟩ <;> simp [lenV, *]
  rcases h3 with ⟨rfl, _⟩ | ⟨cs, fps, hne, hc, _, hcs⟩
  · refine ⟨[], [], ?_, ⟨rfl, rfl⟩, hl⟩
    rcases h1 with ⟨rfl, _⟩ | ⟨b, off, cap, rfl, _⟩
    · rfl
    · simp [V.rowV]
  · rcases h1 with ⟨rfl, _⟩ | ⟨b, off, cap, rfl, _⟩
    · exact (hne rfl).elim
    · exact ⟨cs, fps, rowV_cells hc, hcs, hl⟩
theorem sep_appendX {P : Program} {t : TypeId} {k : TK} {n : Nat} {K : Value → Heap → Prop}
    (s : Sep a h (ownA el l v :: cellsA ys cs :: L)) (hw : lenV x = some n) (hr : V.rowV h (Rep.sz α) n x = some cs) (hn : ys.length = n) (ht : tElem P t = some el) (hk : tk P el = some k) (hs : k.size = Rep.sz α) (hb0 : 0 < k.bytes) (hb : (l.length + n) * k.bytes ≤ 140737488355328)
    (next : ∀ v' h', Sep a h' (ownA el (l ++ ys) v' :: L) → K v' h') : optH (appendV P t v x h) K := by
  subst hn
  have hle : l.length + ys.length ≤ 140737488355328 := Nat.le_trans (Nat.le_mul_of_pos_right _ hb0) hb
  obtain ⟨fp, ⟨f1, f2, rfl, h1, fps, hc, rfl⟩, hd, hrw⟩ := s.both.get
  obtain ⟨v', h', fp', e, _, _, _⟩ := own_append2 h1 ht hk hs hw hr hc hd hb (by omega)
  rw [e]
  refine next v' h' (s.both.put ?_)
  rintro fp ⟨f1, f2, rfl, h1, fps, hc, rfl⟩ hd hrw
  obtain ⟨v2, h2, fp2, e2, o, c, m⟩ := own_append2 h1 ht hk hs hw hr hc hd hb (by omega)
  obtain ⟨rfl, rfl⟩ : v' = v2 ∧ h' = h2 := by rw [e] at e2; simpa using e2
  have hsub : ∀ b ∈ own1 v, b ∈ f1 := fun b hb => by
    rcases Own.cases h1 with ⟨rfl, _, _⟩ | ⟨b', off, cap, kb, fps', rfl, _, _, _, _, _, rfl, _⟩
    · simp [own1] at hb
    · simp only [own1, List.mem_singleton] at hb; subst hb; simp
  refine ⟨fp2, o, o.nodup, ⟨c.le, fun b hb hn => c.eq b hb fun hm => hn (List.mem_append_left _ (hsub b hm))⟩, fun b hb => ?_⟩
  rcases m b hb with ⟨rfl, h3⟩ | ⟨h3, h4⟩ | h3
  · refine ⟨h3.imp (fun h => by simp [h]) id, ?_⟩
    rcases o.own with ⟨_, rfl⟩ | ⟨k', _, hk1, hk2, _⟩
    · simp at hb
    · exact ⟨k', hk1, hk2⟩
  · exact ⟨.inl (by simp [h3]), (hrw b (by simp [h3])).of (c.eq b (hrw b (by simp [h3])).lt h4)⟩
  · have hn4 : b ∉ own1 v := fun hm => (List.nodup_append.1 hd).2.2 b (hsub b hm) b h3 rfl
    exact ⟨.inl (by simp [h3]), (hrw b (by simp [h3])).of (c.eq b (hrw b (by simp [h3])).lt hn4)⟩
/-- append of all elements of another row. -/
theorem sep_appendRow [FlatT α] {P : Program} {t : TypeId} {k : TK} {K : Value → Heap → Prop}
    (s : Sep a h (ownA el l v :: L)) (r : Row h ys x) (ht : tElem P t = some el) (hk : tk P el = some k) (hs : k.size = Rep.sz α) (hb0 : 0 < k.bytes) (hb : (l.length + ys.length) * k.bytes ≤ 140737488355328)
    (next : ∀ v' h', Sep a h' (ownA el (l ++ ys) v' :: L) → K v' h') : optH (appendV P t v x h) K := by
  obtain ⟨cs, fps, hr, hc, hl⟩ := r.rowV
  exact sep_appendX (Sep.swap (Sep.flat (x := cellsA ys cs) s ⟨fps, hc, hc.flat.symm⟩)) hl hr rfl ht hk hs hb0 hb next
/-- An empty list that has just been built. -/
theorem Sep.empty (s : Sep a h L) (el : TypeId) (ex : Bool) : Sep a (h ++ [some ⟨[], el, false, ex⟩]) (ownA (α := α) el [] (.slice (some ⟨h.length, 0, none⟩) 0 0) :: L) := by
  refine (s.newBlk [] el ex).to fun fp ⟨e, ex', hg⟩ hd => ?_
  subst e
  exact ⟨[h.length], Own.mk' (α := α) (l := []) (b := h.length) (off := 0) (cap := 0) (fps := []) (Nat.le_refl _) (by simp) hg rfl rfl (by simp) ⟨by simp, rfl⟩ (by simp), by simp, fun _ h => h⟩
theorem Row.nil_or (r : Row h ys x) : (x = .slice none 0 0 ∧ ys = []) ∨ ∃ b off n c, x = .slice (some ⟨b, off, none⟩) n c := by
  rcases r.isRow with ⟨rfl, hn⟩ | ⟨b, off, cap, rfl, _⟩
  · exact .inl ⟨rfl, List.eq_nil_of_length_eq_zero hn⟩
  · exact .inr ⟨b, off, _, cap, rfl⟩
end
theorem isNone_some {α : Type} (b : α) : (some b).isNone = false := rfl
theorem isNone_none {α : Type} : (none : Option α).isNone = true := rfl
theorem r_ct (P : Program) (t a s : Nat) (Q : Value → Heap → Prop) (e : Env) (h : Heap) : retK P [.cell a t, .tmp s] Q .ret e h = retL Q h [loadV P t (e a) h, some (e s)] [] := r2_gen P _ _ Q e h
theorem r_cc (P : Program) (t a s b : Nat) (Q : Value → Heap → Prop) (e : Env) (h : Heap) : retK P [.cell a t, .cell b s] Q .ret e h = retL Q h [loadV P t (e a) h, loadV P s (e b) h] [] := r2_gen P _ _ Q e h
theorem r_tc (P : Program) (t a s : Nat) (Q : Value → Heap → Prop) (e : Env) (h : Heap) : retK P [.tmp s, .cell a t] Q .ret e h = retL Q h [some (e s), loadV P t (e a) h] [] := r2_gen P _ _ Q e h
theorem r_tct (P : Program) (t a s u : Nat) (Q : Value → Heap → Prop) (e : Env) (h : Heap) : retK P [.tmp s, .cell a t, .tmp u] Q .ret e h = retL Q h [some (e s), loadV P t (e a) h, some (e u)] [] := r3_gen P _ _ _ Q e h
theorem r_ctt (P : Program) (t a s u : Nat) (Q : Value → Heap → Prop) (e : Env) (h : Heap) : retK P [.cell a t, .tmp s, .tmp u] Q .ret e h = retL Q h [loadV P t (e a) h, some (e s), some (e u)] [] := r3_gen P _ _ _ Q e h
theorem r_cct (P : Program) (t a s u b : Nat) (Q : Value → Heap → Prop) (e : Env) (h : Heap) : retK P [.cell a t, .cell b u, .tmp s] Q .ret e h = retL Q h [loadV P t (e a) h, loadV P u (e b) h, some (e s)] [] := r3_gen P _ _ _ Q e h
theorem retL_some (Q : Value → Heap → Prop) (h : Heap) (v : Value) (l : List (Option Value)) (vs : List Value) : retL Q h (some v :: l) vs = retL Q h l (vs ++ [v]) := rfl
theorem retL_nil (Q : Value → Heap → Prop) (h : Heap) (vs : List Value) : retL Q h [] vs = if vs.all plainV then Q (.tuple vs.toArray) h else False := rfl
theorem all_cons' (f : Value → Bool) (v : Value) (l : List Value) : (v :: l).all f = (f v && l.all f) := rfl
theorem all_nil' (f : Value → Bool) : ([] : List Value).all f = true := rfl
def VB := And.intro @isNone_some (And.intro @isNone_none (And.intro @r_ct (And.intro @r_cc (And.intro @r_tc (And.intro @r_tct (And.intro @r_ctt (And.intro @r_cct (And.intro @retL_some (And.intro @retL_nil (And.intro @all_cons' @all_nil'))))))))))

/-- The marks are not many. -/
class CntB (α : Type) [Mrk α] [Siz α] : Prop where
  c : ∀ x : α, Mrk.cnt x ≤ 8 * Siz.siz x
  e : ∀ x : α, Mrk.ecnt x ≤ 8 * (1 + Siz.siz x)
instance : CntB Int := ⟨fun _ => Nat.zero_le _, fun _ => by show 1 ≤ 8 * (1 + 0); decide⟩
theorem cntL_le {α : Type} [Mrk α] [Siz α] [CntB α] (l : List α) : cntL l ≤ 8 * Siz.siz l := by
  rw [siz_list]
  unfold cntL
  induction l with
  | nil => simp
  | cons x l ih =>
    have := CntB.e x
    simp only [List.map_cons, List.sum_cons, List.length_cons]
    omega
instance {α : Type} [Mrk α] [Siz α] [CntB α] : CntB (List α) := ⟨cntL_le, fun x => by have : Mrk.ecnt x = cntL x := rfl; have := cntL_le x; omega⟩
section
variable {α β : Type} [Rep α] [Rep β] [Giv α] [Giv β] {h : Heap} {c1 c2 : List Value}
theorem mkg_int {n : Int} (hn : inI64 n) : GivH h n [.int .i64 n] := ⟨[], rfl, rfl, hn⟩
theorem mkg_bool {n : Bool} : GivH h n [.bool n] := ⟨[], rfl, rfl⟩
theorem mkg_pair {p : α × β} (h1 : GivH h p.1 c1) (h2 : GivH h p.2 c2) : GivH h p (c1 ++ c2) := by
  obtain ⟨f, h1⟩ := h1; obtain ⟨g, h2⟩ := h2; exact ⟨f ++ g, c1, c2, f, g, rfl, rfl, h1, h2⟩
end
instance : Giv ByteArray := Giv.base ⟨#[126, 115, 112, 97, 114, 101, 126]⟩
theorem mkg_str {h : Heap} {n : ByteArray} (hn : n.size ≤ 9223372036854775807) : GivH h n [.string n] := ⟨[], rfl, rfl, hn⟩

/-! ### functions whose contract speaks of worlds (the library's) -/
theorem Rel.below {P : Program} [Laid P] {B0 : Nat} {ι : List Place} {h : Heap} {w w' : World} (r : Rel P B0 ι h w) (b : Below w.heap.size w w') : Rel P B0 ι h w' := by
  have hb0 : Below B0 w w' := ⟨b.os, b.tape, b.output, b.size, fun k hk => b.block k (Nat.lt_of_lt_of_le hk r.base)⟩
  refine ⟨r.len, Nat.le_trans r.base b.size, fun w2 h2 => r.glob w2 (hb0.trans h2), fun b' k p hb hp => ?_, r.inj⟩
  obtain ⟨arr, fz, h1, h2⟩ := r.blk b' k p hb hp
  refine ⟨arr, fz, ?_, h2⟩
  rw [b.block p.blk (Array.getElem?_eq_some_iff.1 h1).1]; exact h1
/-- A library's function on plain values. -/
theorem CallsV.of_calls {P : Program} [Laid P] {f : FuncId} {args : List Value} {v : Value} {h : Heap} {Q : Value → Heap → Prop}
    (ha : ∀ ι us, L2 (VR ι) args us → us = args) (hv : ∀ ι, VR ι v v)
    (hc : ∀ w, Laid.G P w → Calls P f args.toArray w fun e w' => e = .returned v ∧ Below w.heap.size w w') (hQ : Q v h) : CallsV P f args h Q := by
  intro B0 ι w us r hu
  obtain rfl := ha ι us hu
  refine (hc w (r.glob w (Below.refl B0 w))).mono ?_
  rintro e w' ⟨rfl, b⟩
  exact ⟨v, v, h, ι, rfl, hQ, hv ι, r.below b, List.prefix_rfl, ⟨b.os, b.tape, b.output, b.size, fun k hk => b.block k (Nat.lt_of_lt_of_le hk r.base)⟩⟩

theorem cellsAt_sub {h : Heap} {b off n : Nat} {cs : List Value} (hc : cellsAt h b off n = some cs) (i m : Nat) (him : i + m ≤ n) : cellsAt h b (off + i) m = some ((cs.drop i).take m) := by
  obtain ⟨k, hk, hle, rfl⟩ := cellsAt_getB hc
  rw [cellsAt_of hk (by omega), List.drop_take, List.drop_drop, List.take_take, Nat.min_eq_left (by omega)]
end Go.V

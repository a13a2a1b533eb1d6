/- The layer V, part 24: pieces of memory that do not overlap. -/
import Derived.Test.YtheliocfcjkbhaaDoorV23
set_option linter.all false
namespace Go.V
open Go Go.RowKit

def own1 : Value → List Nat | .slice (some a) _ _ => [a.block] | _ => []
/-- May be written. -/
def rwB (h : Heap) (b : Nat) : Prop := ∃ k, getB h b = some k ∧ k.ro = false
theorem rwB.of {h h' : Heap} {b : Nat} (r : rwB h b) (e : getB h' b = getB h b) : rwB h' b := by
  obtain ⟨k, h1, h2⟩ := r; exact ⟨k, e.trans h1, h2⟩
theorem rwB.lt {h : Heap} {b : Nat} (r : rwB h b) : b < h.length := by obtain ⟨k, h1, _⟩ := r; exact getB_lt h1

/-- append, with its new elements told; what is changed, and where the new blocks come from. -/
theorem own_append2 {α : Type} [Rep α] {P : Program} {t el : TypeId} {k : TK} {h : Heap} {l ys : List α} {v x : Value} {fp : List Nat} {cs : List Value} {gps : List (List Nat)}
    (ov : Own el h l v fp) (ht : tElem P t = some el) (hk : tk P el = some k) (hs : k.size = Rep.sz α)
    (hx : lenV x = some ys.length) (hr : rowV h (Rep.sz α) ys.length x = some cs) (hc : Cells h ys cs gps) (hd : (fp ++ gps.flatten).Nodup)
    (hb : (l.length + ys.length) * k.bytes ≤ 140737488355328) (hn : l.length + ys.length ≤ 9223372036854775807) :
    ∃ v' h' fp', appendV P t v x h = some (v', h') ∧ Own el h' (l ++ ys) v' fp' ∧ Chg (own1 v) h h' ∧ (∀ c ∈ fp', (c = rowB v' ∧ (c ∈ fp ∨ h.length ≤ c)) ∨ (c ∈ fp ∧ c ∉ own1 v) ∨ c ∈ gps.flatten) := by
  have hd1 := (List.nodup_append.1 hd)
  have hlen := hc.length
  rcases ov.cases with ⟨rfl, rfl, rfl⟩ | ⟨b, off, cap, kb, fps, rfl, hle, h1, h2, h3, h4, rfl, hcl⟩
  · -- nothing there as yet
    simp only [appendV, ht, hk, Option.bind_some, hx, hs, hr]
    by_cases hy : ys.length = 0
    · obtain rfl := List.length_eq_zero_iff.1 hy
      obtain ⟨rfl, rfl⟩ := hc
      exact ⟨.slice none 0 0, h, [], by simp, by simpa using Own.nil el h, (Ext.refl h).chg, by simp⟩
    · simp only [List.length_nil] at hb hn
      rw [if_neg (show ¬ (0 + ys.length ≤ 0) by omega), if_pos hb]
      simp only [if_true]
      refine ⟨_, _, h.length :: gps.flatten, rfl, ?_, (Ext.one h _).chg, ?_⟩
      · have hg : getB (h ++ [some ⟨cs, el, false, false⟩]) h.length = some ⟨cs, el, false, false⟩ := getB_append_new
        have hfr : Cells (h ++ [some ⟨cs, el, false, false⟩]) ys cs gps := hc.frame fun b hb => getB_append_left (hc.live b hb)
        refine Own.mk' (l := ys) (off := 0) (cap := ys.length) (Nat.le_refl _) (by omega) hg rfl rfl (by simpa using hlen.1.symm) ?_ ?_
        · simpa [List.take_of_length_le (Nat.le_of_eq hlen.1)] using hfr
        · refine List.nodup_cons.2 ⟨fun hm => ?_, hd1.2.1⟩
          have := hc.live _ hm; omega
      · intro b hb
        rcases List.mem_cons.1 hb with rfl | hb
        · exact .inl ⟨rfl, .inr (Nat.le_refl _)⟩
        · exact .inr (.inr hb)
  · obtain ⟨kc, kty, kro, kex⟩ := kb
    simp only at h2 h3 h4 hcl
    subst h2; subst h3
    have hfl : ∀ c ∈ fps.flatten, c ≠ b := fun c hc e => by subst e; exact (List.nodup_cons.1 ov.nodup).1 hc
    have hgl : ∀ c ∈ gps.flatten, c ≠ b := fun c hc e => by subst e; exact hd1.2.2 c (by simp) c hc rfl
    have hll := hcl.live
    have hlc := hcl.length
    have hmul : l.length * Rep.sz α ≤ cap * Rep.sz α := Nat.mul_le_mul_right _ hle
    simp only [appendV, ht, hk, Option.bind_some, hx, hs, hr]
    by_cases hfit : l.length + ys.length ≤ cap
    · rw [if_pos hfit]
      by_cases hy : ys.length = 0
      · obtain rfl := List.length_eq_zero_iff.1 hy
        obtain ⟨rfl, rfl⟩ := hc
        exact ⟨.slice (some ⟨b, off, none⟩) l.length cap, h, _, by simp, by simpa using ov, (Ext.refl h).chg, fun c hb => by
          rcases List.mem_cons.1 hb with rfl | hb
          · exact .inl ⟨rfl, .inl (by simp)⟩
          · exact .inr (.inl ⟨List.mem_cons_of_mem _ hb, by simpa [own1] using hfl c hb⟩)⟩
      · rw [if_neg hy]
        have hm2 : l.length * Rep.sz α + ys.length * Rep.sz α ≤ cap * Rep.sz α := by rw [← Nat.add_mul]; exact Nat.mul_le_mul_right _ hfit
        have hwl : off + l.length * Rep.sz α + cs.length ≤ kc.length := by omega
        simp only [writeB, h1, Bool.not_false, Bool.true_and, decide_eq_true hwl, if_true, Option.map_some]
        have hg : getB (h.set b (some ⟨putCells kc (off + l.length * Rep.sz α) cs, kty, false, kex⟩)) b = some ⟨putCells kc (off + l.length * Rep.sz α) cs, kty, false, kex⟩ := by rw [getB_set (getB_lt h1), if_pos rfl]
        have hframe : ∀ c, c ≠ b → getB (h.set b (some ⟨putCells kc (off + l.length * Rep.sz α) cs, kty, false, kex⟩)) c = getB h c := fun c hc => by rw [getB_set (getB_lt h1), if_neg hc]
        refine ⟨_, _, b :: (fps ++ gps).flatten, rfl, ?_, ⟨by simp, fun c _ hc => hframe c fun e => hc (by rw [e]; simp [own1])⟩, ?_⟩
        · have := Own.mk' (α := α) (el := kty) (l := l ++ ys) (b := b) (off := off) (cap := cap) (k := ⟨putCells kc (off + l.length * Rep.sz α) cs, kty, false, kex⟩) (fps := fps ++ gps) (h := h.set b (some ⟨putCells kc (off + l.length * Rep.sz α) cs, kty, false, kex⟩))
            (by simpa using hfit) (by simpa using hn) hg rfl rfl (by simp only [putCells_length hwl]; exact h4) ?_ ?_
          · simpa using this
          · have e : (List.drop off (putCells kc (off + l.length * Rep.sz α) cs)).take ((l ++ ys).length * Rep.sz α) = (kc.drop off).take (l.length * Rep.sz α) ++ cs := by
              apply List.ext_getElem?
              intro i
              rw [List.getElem?_take, List.length_append, Nat.add_mul]
              split
              · rename_i hi
                rw [List.getElem?_drop]
                by_cases hi2 : i < l.length * Rep.sz α
                · rw [putCells_out hwl (.inl (by omega)), List.getElem?_append_left (by rw [List.length_take, List.length_drop]; omega), List.getElem?_take, if_pos hi2, List.getElem?_drop]
                · rw [putCells_in hwl (by omega) (by omega), List.getElem?_append_right (by rw [List.length_take, List.length_drop]; omega)]
                  congr 1; rw [List.length_take, List.length_drop]; omega
              · symm; rw [List.getElem?_eq_none_iff, List.length_append, List.length_take, List.length_drop]; omega
            rw [e]
            exact (hcl.frame fun c hc => hframe c (hfl c hc)).append (hc.frame fun c hc => hframe c (hgl c hc))
          · rw [List.flatten_append]; exact hd
        · intro c hc
          rw [List.flatten_append] at hc
          rcases List.mem_cons.1 hc with rfl | hc
          · exact .inl ⟨rfl, .inl (by simp)⟩
          · rcases List.mem_append.1 hc with hc | hc
            · exact .inr (.inl ⟨List.mem_cons_of_mem _ hc, by simpa [own1] using hfl c hc⟩)
            · exact .inr (.inr hc)
    · rw [if_neg hfit, if_pos hb]
      simp only [h1, Bool.not_false, Bool.true_and, Option.bind_some]
      rw [if_pos (by simp [h4, hle])]
      rw [rowV_cells (cellsAt_of h1 (by simp only []; omega))]
      simp only [Option.map_some]
      have hg : getB (killB h b ++ [some ⟨(kc.drop off).take (l.length * Rep.sz α) ++ cs, kty, false, false⟩]) h.length = some ⟨(kc.drop off).take (l.length * Rep.sz α) ++ cs, kty, false, false⟩ := by
        have := getB_append_new (h := killB h b) (k := ⟨(kc.drop off).take (l.length * Rep.sz α) ++ cs, kty, false, false⟩)
        rwa [kill_length] at this
      have hframe : ∀ c, c < h.length → c ≠ b → getB (killB h b ++ [some ⟨(kc.drop off).take (l.length * Rep.sz α) ++ cs, kty, false, false⟩]) c = getB h c := fun c hc hb => by
        rw [getB_append_left (by rw [kill_length]; exact hc), getB_kill hb]
      refine ⟨_, _, h.length :: (fps ++ gps).flatten, rfl, ?_, ⟨by simp [kill_length], fun c hc hn => hframe c hc fun e => hn (by rw [e]; simp [own1])⟩, ?_⟩
      · have := Own.mk' (α := α) (el := kty) (l := l ++ ys) (b := h.length) (off := 0) (cap := l.length + ys.length) (fps := fps ++ gps) (Nat.le_of_eq (by simp)) (by simpa using hn) hg rfl rfl
          (by simp only [List.length_append]; rw [hlc.1, hlen.1, Nat.add_mul]; omega) ?_ ?_
        · simpa using this
        · have e : ∀ A : List Value, A.length = l.length * Rep.sz α → (A ++ cs).take ((l ++ ys).length * Rep.sz α) = A ++ cs := fun A hA => List.take_of_length_le (by rw [List.length_append, List.length_append, Nat.add_mul]; omega)
          rw [List.drop_zero, e _ hlc.1]
          exact (hcl.frame fun c hc => hframe c (hll c hc) (hfl c hc)).append (hc.frame fun c hcc => hframe c (hc.live c hcc) (hgl c hcc))
        · rw [List.flatten_append]
          refine List.nodup_cons.2 ⟨fun hm => ?_, (List.nodup_cons.1 (by simpa using hd)).2⟩
          rcases List.mem_append.1 hm with hm | hm
          · have := hll _ hm; omega
          · have := hc.live _ hm; omega
      · intro c hc
        rw [List.flatten_append] at hc
        rcases List.mem_cons.1 hc with rfl | hc
        · exact .inl ⟨rfl, .inr (Nat.le_refl _)⟩
        · rcases List.mem_append.1 hc with hc | hc
          · exact .inr (.inl ⟨List.mem_cons_of_mem _ hc, by simpa [own1] using hfl c hc⟩)
          · exact .inr (.inr hc)

/-- A piece of memory and what it holds. -/
structure Asr where
  holds : Heap → List Nat → Prop
  frame : ∀ {h h' fp}, holds h fp → (∀ b ∈ fp, getB h' b = getB h b) → holds h' fp
  live : ∀ {h fp}, holds h fp → ∀ b ∈ fp, b < h.length
def ownA {α : Type} [Rep α] (el : TypeId) (l : List α) (v : Value) : Asr := ⟨fun h fp => Own el h l v fp, fun o hf => o.frame hf, fun o => o.live⟩
def repA {α : Type} [Rep α] (x : α) (cs : List Value) : Asr := ⟨fun h fp => Rep.rep h x cs fp, fun o hf => Rep.frame o hf, fun o => Rep.live o⟩

def cellsA {α : Type} [Rep α] (l : List α) (cs : List Value) : Asr := ⟨fun h fp => ∃ fps, Cells h l cs fps ∧ fp = fps.flatten, fun ⟨fps, o, e⟩ hf => ⟨fps, o.frame fun b hb => hf b (by rw [e]; exact hb), e⟩, fun ⟨fps, o, e⟩ b hb => o.live b (by rw [← e]; exact hb)⟩
/-- Two pieces as one. -/
def bothA (x y : Asr) : Asr := ⟨fun h fp => ∃ f g, fp = f ++ g ∧ x.holds h f ∧ y.holds h g,
  fun ⟨f, g, e, h1, h2⟩ hf => ⟨f, g, e, x.frame h1 fun b hb => hf b (by rw [e]; simp [hb]), y.frame h2 fun b hb => hf b (by rw [e]; simp [hb])⟩,
  fun ⟨f, g, e, h1, h2⟩ b hb => by
    rw [e] at hb
    rcases List.mem_append.1 hb with hb | hb
    · exact x.live h1 b hb
    · exact y.live h2 b hb⟩

def SepF (h : Heap) : List Asr → List Nat → Prop
  | [], fp => fp = []
  | a :: L, fp => ∃ f g, fp = f ++ g ∧ a.holds h f ∧ SepF h L g
theorem SepF.frame {h h' : Heap} : ∀ {L : List Asr} {fp : List Nat}, SepF h L fp → (∀ b ∈ fp, getB h' b = getB h b) → SepF h' L fp := by
  intro L
  induction L with
  | nil => intro fp s _; exact s
  | cons a L ih =>
    rintro fp ⟨f, g, rfl, ha, s⟩ hf
    exact ⟨f, g, rfl, a.frame ha fun b hb => hf b (by simp [hb]), ih s fun b hb => hf b (by simp [hb])⟩
theorem SepF.live {h : Heap} : ∀ {L : List Asr} {fp : List Nat}, SepF h L fp → ∀ b ∈ fp, b < h.length := by
  intro L
  induction L with
  | nil => intro fp s b hb; rw [show fp = [] from s] at hb; simp at hb
  | cons a L ih =>
    rintro fp ⟨f, g, rfl, ha, s⟩ b hb
    rcases List.mem_append.1 hb with hb | hb
    · exact a.live ha b hb
    · exact ih s b hb
theorem SepF.append {h : Heap} : ∀ {L M : List Asr} {f g : List Nat}, SepF h L f → SepF h M g → SepF h (L ++ M) (f ++ g) := by
  intro L
  induction L with
  | nil => intro M f g s t; rw [show f = [] from s]; exact t
  | cons a L ih =>
    rintro M f g ⟨f1, f2, rfl, ha, s⟩ t
    exact ⟨f1, f2 ++ g, by simp, ha, ih s t⟩
theorem SepF.split {h : Heap} : ∀ {L M : List Asr} {fp : List Nat}, SepF h (L ++ M) fp → ∃ f g, fp = f ++ g ∧ SepF h L f ∧ SepF h M g := by
  intro L
  induction L with
  | nil => intro M fp s; exact ⟨[], fp, rfl, rfl, s⟩
  | cons a L ih =>
    rintro M fp ⟨f1, f2, rfl, ha, s⟩
    obtain ⟨g1, g2, rfl, s1, s2⟩ := ih s
    exact ⟨f1 ++ g1, g2, by simp, ⟨f1, g1, rfl, ha, s1⟩, s2⟩

/-- Since the heap a: what lay there then is as it was; these pieces are new, may be written and do not overlap. -/
def Sep (a h : Heap) (L : List Asr) : Prop := Ext a h ∧ ∃ fp, SepF h L fp ∧ fp.Nodup ∧ ∀ b ∈ fp, a.length ≤ b ∧ rwB h b

section
variable {a h h' : Heap} {L M : List Asr}
theorem Sep.ext (s : Sep a h L) : Ext a h := s.1
theorem Sep.nil (e : Ext a h) : Sep a h [] := ⟨e, [], rfl, List.nodup_nil, by simp⟩
theorem Sep.mono (s : Sep a h L) (e : Ext h h') : Sep a h' L := by
  obtain ⟨e0, fp, s, hd, hn⟩ := s
  exact ⟨e0.trans e, fp, s.frame fun b hb => e.eq b (s.live b hb), hd, fun b hb => ⟨(hn b hb).1, (hn b hb).2.of (e.eq b (s.live b hb))⟩⟩
theorem Sep.back {b : Heap} (s : Sep b h L) (e : Ext a b) : Sep a h L := by
  obtain ⟨e0, fp, s, hd, hn⟩ := s
  exact ⟨e.trans e0, fp, s, hd, fun c hc => ⟨Nat.le_trans e.le (hn c hc).1, (hn c hc).2⟩⟩
/-- What a call has made, beside what there was. -/
theorem Sep.add (s : Sep a h L) (t : Sep h h' M) : Sep a h' (M ++ L) := by
  obtain ⟨e0, f, s1, hd, hn⟩ := s
  obtain ⟨e1, g, t1, hd2, hn2⟩ := t
  have hl := s1.live
  refine ⟨e0.trans e1, g ++ f, t1.append (s1.frame fun b hb => e1.eq b (hl b hb)), List.nodup_append.2 ⟨hd2, hd, fun x hx y hy e => ?_⟩, fun b hb => ?_⟩
  · subst e
    have := (hn2 x hx).1
    have := hl x hy
    omega
  · rcases List.mem_append.1 hb with hb | hb
    · exact ⟨Nat.le_trans e0.le (hn2 b hb).1, (hn2 b hb).2⟩
    · exact ⟨(hn b hb).1, (hn b hb).2.of (e1.eq b (hl b hb))⟩
theorem Sep.comm (s : Sep a h (L ++ M)) : Sep a h (M ++ L) := by
  obtain ⟨e0, fp, s, hd, hn⟩ := s
  obtain ⟨f, g, rfl, s1, s2⟩ := s.split
  have hd' := List.nodup_append.1 hd
  refine ⟨e0, g ++ f, s2.append s1, List.nodup_append.2 ⟨hd'.2.1, hd'.1, fun x hx y hy e => hd'.2.2 y hy x hx e.symm⟩, fun b hb => hn b ?_⟩
  rcases List.mem_append.1 hb with hb | hb <;> simp [hb]
theorem Sep.drop (s : Sep a h (L ++ M)) : Sep a h M := by
  obtain ⟨e0, fp, s, hd, hn⟩ := s
  obtain ⟨f, g, rfl, s1, s2⟩ := s.split
  exact ⟨e0, g, s2, (List.nodup_append.1 hd).2.1, fun b hb => hn b (by simp [hb])⟩
theorem Sep.keep (s : Sep a h (L ++ M)) : Sep a h L := s.comm.drop
theorem Sep.tail {x : Asr} (s : Sep a h (x :: L)) : Sep a h L := Sep.drop (L := [x]) s
theorem Sep.head {x : Asr} (s : Sep a h (x :: L)) : Sep a h [x] := Sep.keep (L := [x]) s
theorem Sep.swap {x y : Asr} (s : Sep a h (x :: y :: L)) : Sep a h (y :: x :: L) := by
  obtain ⟨e0, fp, ⟨f1, g1, rfl, h1, f2, g2, rfl, h2, s⟩, hd, hn⟩ := s
  have hp : (f2 ++ (f1 ++ g2)).Perm (f1 ++ (f2 ++ g2)) := by
    rw [← List.append_assoc, ← List.append_assoc]
    exact List.Perm.append_right _ List.perm_append_comm
  exact ⟨e0, f2 ++ (f1 ++ g2), ⟨f2, f1 ++ g2, rfl, h2, f1, g2, rfl, h1, s⟩, hp.nodup_iff.2 hd, fun b hb => hn b (hp.mem_iff.1 hb)⟩
/-- The third comes to the front. -/
theorem Sep.rot3 {x y z : Asr} (s : Sep a h (x :: y :: z :: L)) : Sep a h (z :: x :: y :: L) := Sep.comm (L := [x, y]) (M := [z]) (Sep.keep (L := [x, y, z]) s) |> fun t => by
  obtain ⟨e0, fp, ⟨f1, g1, rfl, h1, f2, g2, rfl, h2, f3, g3, rfl, h3, s⟩, hd, hn⟩ := s
  have hp : (f3 ++ (f1 ++ (f2 ++ g3))).Perm (f1 ++ (f2 ++ (f3 ++ g3))) := by
    have : (f3 ++ (f1 ++ f2)).Perm ((f1 ++ f2) ++ f3) := List.perm_append_comm
    simpa using this.append_right g3
  exact ⟨e0, _, ⟨f3, _, rfl, h3, f1, _, rfl, h1, f2, g3, rfl, h2, s⟩, hp.nodup_iff.2 hd, fun b hb => hn b (hp.mem_iff.1 hb)⟩
/-- One piece, told in another way. -/
theorem Sep.to {x y : Asr} (s : Sep a h (x :: L)) (f : ∀ fp, x.holds h fp → fp.Nodup → ∃ fp', y.holds h fp' ∧ fp'.Nodup ∧ ∀ b ∈ fp', b ∈ fp) : Sep a h (y :: L) := by
  obtain ⟨e0, fp, ⟨f1, g1, rfl, h1, s⟩, hd, hn⟩ := s
  have hd' := List.nodup_append.1 hd
  obtain ⟨f2, h2, hd2, hs⟩ := f f1 h1 hd'.1
  exact ⟨e0, f2 ++ g1, ⟨f2, g1, rfl, h2, s⟩, List.nodup_append.2 ⟨hd2, hd'.2.1, fun x hx y hy e => hd'.2.2 x (hs x hx) y hy e⟩, fun b hb => by
    rcases List.mem_append.1 hb with hb | hb
    · exact hn b (by simp [hs b hb])
    · exact hn b (by simp [hb])⟩
theorem Sep.get {x : Asr} (s : Sep a h (x :: L)) : ∃ fp, x.holds h fp ∧ fp.Nodup ∧ ∀ b ∈ fp, a.length ≤ b ∧ rwB h b := by
  obtain ⟨e0, fp, ⟨f1, g1, rfl, h1, s⟩, hd, hn⟩ := s
  exact ⟨f1, h1, (List.nodup_append.1 hd).1, fun b hb => hn b (by simp [hb])⟩
/-- A piece that takes no block. -/
theorem Sep.flat {x : Asr} (s : Sep a h L) (hx : x.holds h []) : Sep a h (x :: L) := by
  obtain ⟨e0, fp, s, hd, hn⟩ := s
  exact ⟨e0, fp, ⟨[], fp, rfl, hx, s⟩, hd, hn⟩
theorem Sep.both {x y : Asr} (s : Sep a h (x :: y :: L)) : Sep a h (bothA x y :: L) := by
  obtain ⟨e0, fp, ⟨f1, g1, rfl, h1, f2, g2, rfl, h2, s⟩, hd, hn⟩ := s
  exact ⟨e0, f1 ++ (f2 ++ g2), ⟨f1 ++ f2, g2, by simp, ⟨f1, f2, rfl, h1, h2⟩, s⟩, hd, hn⟩
theorem Sep.unboth {x y : Asr} (s : Sep a h (bothA x y :: L)) : Sep a h (x :: y :: L) := by
  obtain ⟨e0, fp, ⟨f1, g1, rfl, ⟨f, g, rfl, h1, h2⟩, s⟩, hd, hn⟩ := s
  exact ⟨e0, (f ++ g) ++ g1, ⟨f, g ++ g1, by simp, h1, g, g1, rfl, h2, s⟩, hd, hn⟩
/-- One piece is made anew; the others stay. -/
theorem Sep.put {x y : Asr} (s : Sep a h (x :: L)) (hx : ∀ fp, x.holds h fp → fp.Nodup → (∀ b ∈ fp, rwB h b) → ∃ f', y.holds h' f' ∧ f'.Nodup ∧ Chg fp h h' ∧ ∀ b ∈ f', (b ∈ fp ∨ h.length ≤ b) ∧ rwB h' b) : Sep a h' (y :: L) := by
  obtain ⟨e0, fp, ⟨f1, g1, rfl, h1, s⟩, hd, hn⟩ := s
  have hd' := List.nodup_append.1 hd
  obtain ⟨f2, h2, hd2, hc, hb2⟩ := hx f1 h1 hd'.1 fun b hb => (hn b (by simp [hb])).2
  have hg : ∀ b ∈ g1, getB h' b = getB h b := fun b hb => hc.eq b (s.live b hb) fun hm => hd'.2.2 b hm b hb rfl
  refine ⟨hc.ext e0 fun b hb => (hn b (by simp [hb])).1, f2 ++ g1, ⟨f2, g1, rfl, h2, s.frame hg⟩, List.nodup_append.2 ⟨hd2, hd'.2.1, fun x hx y hy e => ?_⟩, fun b hb => ?_⟩
  · subst e
    rcases (hb2 x hx).1 with h3 | h3
    · exact hd'.2.2 x h3 x hy rfl
    · have := s.live x hy; omega
  · rcases List.mem_append.1 hb with hb | hb
    · rcases (hb2 b hb).1 with h3 | h3
      · exact ⟨(hn b (by simp [h3])).1, (hb2 b hb).2⟩
      · exact ⟨Nat.le_trans e0.le h3, (hb2 b hb).2⟩
    · exact ⟨(hn b (by simp [hb])).1, (hn b (by simp [hb])).2.of (hg b hb)⟩
end

section
variable {α : Type} [Rep α] {a h h' : Heap} {L : List Asr} {el : TypeId} {l : List α} {v : Value} {x y : α} {cs : List Value}
theorem Sep.row (s : Sep a h (ownA el l v :: L)) : Row h l v := by obtain ⟨fp, o, _⟩ := s.get; exact Own.toRow o
theorem Sep.here (s : Sep a h (repA x cs :: L)) : Here h x cs := by obtain ⟨fp, o, _⟩ := s.get; exact ⟨fp, o⟩
theorem Sep.rowR (s : Sep a h (repA l [v] :: L)) : Row h l v := by
  obtain ⟨fp, ⟨v', e, o⟩, _⟩ := s.get
  obtain rfl : v = v' := by simpa using e
  exact ⟨fp, o⟩
theorem Sep.toRep (s : Sep a h (ownA el l v :: L)) : Sep a h (repA l [v] :: L) := s.to fun fp o hd => ⟨fp, ⟨v, rfl, Own.row o⟩, hd, fun _ h => h⟩
theorem Sep.nilA (s : Sep a h L) (el : TypeId) : Sep a h (ownA (α := α) el [] (.slice none 0 0) :: L) := s.flat (Own.nil el h)
theorem Sep.rep0 (s : Sep a h L) (hr : Rep.rep h x cs []) : Sep a h (repA x cs :: L) := s.flat hr
theorem Sep.cut (s : Sep a h (ownA el l v :: L)) {lo m : Nat} (h1 : lo ≤ m) (h2 : m ≤ l.length) : Sep a h (ownA el ((l.take m).drop lo) (cutV v (Rep.sz α) lo m) :: L) := s.to fun fp o hd => by
  obtain ⟨fp', o', hm⟩ := Own.cut o h1 h2
  exact ⟨fp', o', o'.nodup, hm⟩

/-- append of elements that have just been built. -/
theorem sep_appends {P : Program} {t : TypeId} {k : TK} {ys : List α} {H : Heap} {idx n : Nat} {ty : TypeId} {ro ex : Bool} {K : Value → Heap → Prop}
    (s : Sep a h (ownA el l v :: cellsA ys cs :: L)) (hH : H = h ++ [some ⟨cs, ty, ro, ex⟩]) (hi : idx = h.length) (hn : ys.length = n) (ht : tElem P t = some el) (hk : tk P el = some k) (hs : k.size = Rep.sz α) (hb0 : 0 < k.bytes) (hb : (l.length + n) * k.bytes ≤ 140737488355328)
    (next : ∀ v' h', Sep a h' (ownA el (l ++ ys) v' :: L) → K v' h') : optH (appendV P t v (.slice (some ⟨idx, 0, none⟩) n n) H) K := by
  subst hH; subst hi; subst hn
  have hle : l.length + ys.length ≤ 140737488355328 := Nat.le_trans (Nat.le_mul_of_pos_right _ hb0) hb
  have s' := s.mono (Ext.one h (some ⟨cs, ty, ro, ex⟩))
  have hw : lenV (.slice (some ⟨h.length, 0, none⟩) ys.length ys.length) = some ys.length := rfl
  -- what append comes to, for these blocks
  obtain ⟨fp, ⟨f1, f2, rfl, h1, fps, hc, rfl⟩, hd, hrw⟩ := s'.both.get
  have hx1 := hc.length.1
  obtain ⟨v', h', fp', e, _, _, _⟩ := own_append2 h1 ht hk hs hw (by rw [rowV_cells (cellsAt_of getB_append_new (by simp only []; omega))]; simp [List.take_of_length_le (Nat.le_of_eq hx1)]) hc hd hb (by omega)
  rw [e]
  refine next v' h' (s'.both.put ?_)
  rintro fp ⟨f1, f2, rfl, h1, fps, hc, rfl⟩ hd hrw
  obtain ⟨v2, h2, fp2, e2, o, c, m⟩ := own_append2 h1 ht hk hs hw (by rw [rowV_cells (cellsAt_of getB_append_new (by simp only []; omega))]; simp [List.take_of_length_le (Nat.le_of_eq hx1)]) hc hd hb (by omega)
  obtain ⟨rfl, rfl⟩ : v' = v2 ∧ h' = h2 := by rw [e] at e2; simpa using e2
  have hsub : ∀ b ∈ own1 v, b ∈ f1 ++ fps.flatten := fun b hb => by
    rcases Own.cases h1 with ⟨rfl, _, _⟩ | ⟨b', off, cap, kb, fps', rfl, _, _, _, _, _, rfl, _⟩
    · simp [own1] at hb
    · simp only [own1, List.mem_singleton] at hb; subst hb; simp
  refine ⟨fp2, o, o.nodup, ⟨c.le, fun b hb hn => c.eq b hb fun hm => hn (hsub b hm)⟩, fun b hb => ?_⟩
  rcases m b hb with ⟨rfl, h3⟩ | ⟨h3, h4⟩ | h3
  · refine ⟨h3.imp (fun h => by simp [h]) id, ?_⟩
    rcases o.own with ⟨_, rfl⟩ | ⟨k', _, hk1, hk2, _⟩
    · simp at hb
    · exact ⟨k', hk1, hk2⟩
  · exact ⟨.inl (by simp [h3]), (hrw b (by simp [h3])).of (c.eq b (hrw b (by simp [h3])).lt h4)⟩
  · have hn4 : b ∉ own1 v := fun hm => by
      have := (List.nodup_append.1 hd).2.2 b ?_ b h3 rfl
      · exact this
      · rcases Own.cases h1 with ⟨rfl, _, _⟩ | ⟨b', off, cap, kb, fps', rfl, _, _, _, _, _, rfl, _⟩
        · simp [own1] at hm
        · simp only [own1, List.mem_singleton] at hm; subst hm; simp
    exact ⟨.inl (by simp [h3]), (hrw b (by simp [h3])).of (c.eq b (hrw b (by simp [h3])).lt hn4)⟩
theorem sep_append {P : Program} {t : TypeId} {k : TK} {H : Heap} {idx : Nat} {ty : TypeId} {ro ex : Bool} {K : Value → Heap → Prop}
    (s : Sep a h (ownA el l v :: repA y cs :: L)) (hH : H = h ++ [some ⟨cs, ty, ro, ex⟩]) (hi : idx = h.length) (ht : tElem P t = some el) (hk : tk P el = some k) (hs : k.size = Rep.sz α) (hb0 : 0 < k.bytes) (hb : (l.length + 1) * k.bytes ≤ 140737488355328)
    (next : ∀ v' h', Sep a h' (ownA el (l ++ [y]) v' :: L) → K v' h') : optH (appendV P t v (.slice (some ⟨idx, 0, none⟩) 1 1) H) K :=
  sep_appends (s.swap.to (y := cellsA [y] cs) fun fp o hd => ⟨fp, ⟨[fp], Cells.one o, by simp⟩, hd, fun _ h => h⟩).swap hH hi rfl ht hk hs hb0 hb next
/-- make -/
theorem sep_make {P : Program} {t : TypeId} {k : TK} {kk kk' : IntKind} {n : Nat} (x : α) {K : Value → Heap → Prop}
    (s : Sep a h L) (ht : tElem P t = some el) (hk : tk P el = some k) (hx : ∀ h, Rep.rep h x k.zero []) (hb0 : 0 < k.bytes) (hb : n * k.bytes ≤ 140737488355328)
    (next : ∀ v h', Sep a h' (ownA el (List.replicate n x) v :: L) → rowC v = n → v ≠ .slice none 0 0 → K v h') : optH (makeSliceV P t (.int kk n) (.int kk' n) h) K := by
  refine make_row x ht hk hx hb0 hb fun v h' E o hc hv => next v h' ?_ hc hv
  refine s.add (M := [ownA el (List.replicate n x) v]) ⟨E, [h.length], ⟨[h.length], [], rfl, o, rfl⟩, o.nodup, fun b hb => ?_⟩
  simp only [List.mem_singleton] at hb
  subst hb
  rcases o.own with ⟨_, h1⟩ | ⟨k', _, hk1, hk2, _, _, hk3⟩
  · simp at h1
  · simp only [List.mem_singleton] at hk3
    exact ⟨Nat.le_refl _, k', by rw [← hk3]; exact hk1, hk2⟩
/-- One element is written. -/
theorem sep_set {i : Nat} {K : Value → Heap → Prop} (s : Sep a h (ownA el l v :: repA y cs :: L)) (hi : i < l.length)
    (next : ∀ h', Sep a h' (ownA el (l.set i y) v :: L) → K UN h') : stK (writeB h (rowB v) (rowO v + i * Rep.sz α) cs) K := by
  obtain ⟨fp, ⟨f1, f2, rfl, h1, h2⟩, hd, hrw⟩ := s.both.get
  have hdd : ∀ {f1 f2 : List Nat}, (f1 ++ f2).Nodup → ∀ b ∈ f2, b ∉ f1 := fun hd b hb hb2 => (List.nodup_append.1 hd).2.2 b hb2 b hb rfl
  obtain ⟨h', fp', e, _⟩ := own_set h1 hi h2 (hdd hd) (List.nodup_append.1 hd).2.1
  rw [e]
  refine next h' (s.both.put ?_)
  rintro fp ⟨f1, f2, rfl, h1, h2⟩ hd hrw
  obtain ⟨h3, fp3, e3, o, c, hl, m⟩ := own_set h1 hi h2 (hdd hd) (List.nodup_append.1 hd).2.1
  obtain rfl : h' = h3 := by rw [e] at e3; simpa using e3
  have hm : rowB v ∈ f1 := by
    rcases Own.cases h1 with ⟨_, rfl, _⟩ | ⟨b', off, cap, kb, fps', rfl, _, _, _, _, _, rfl, _⟩
    · simp at hi
    · simp [rowB]
  refine ⟨fp3, o, o.nodup, ⟨c.le, fun b hb hn => c.eq b hb fun h4 => hn (by simp only [List.mem_singleton] at h4; subst h4; simp [hm])⟩, fun b hb => ⟨.inl (by simpa using m b hb), ?_⟩⟩
  by_cases hb1 : b = rowB v
  · subst hb1
    rcases o.own with ⟨_, rfl⟩ | ⟨k', _, hk1, hk2, _⟩
    · simp at hb
    · exact ⟨k', hk1, hk2⟩
  · have hr := hrw b (by simpa using m b hb)
    exact hr.of (c.eq b hr.lt (by simpa using hb1))
end
end Go.V

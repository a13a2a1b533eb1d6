/- Contracts of functions, facts of types, or the plain law behind one statement (own work): ZC. Conditions: those told in each theorem. -/
import Derived.Test.YtiiolloielppeaaZB
set_option linter.all false
set_option linter.unusedSimpArgs false
set_option linter.unusedVariables false
set_option maxRecDepth 4000
namespace Go.Proofs
open Go Go.V
/- A row of boxes taken apart: its cells, and what its boxes hold. -/
abbrev El := Bx × Raw3
abbrev bxs (z : List El) : List Bx := z.map Prod.fst
abbrev raws (z : List El) : List Raw3 := z.map Prod.snd
def InF (h : Heap) : List El → List (List Nat) → Prop
  | [], fps => fps = []
  | p :: z, fps => ∃ f fps', fps = f :: fps' ∧ Rep.rep h p.1 p.2.c f ∧ InF h z fps'
theorem InF.frame {h h' : Heap} : ∀ {z : List El} {fps : List (List Nat)}, InF h z fps → (∀ b ∈ fps.flatten, getB h' b = getB h b) → InF h' z fps
  | [], _, e, _ => e
  | p :: z, fps, ⟨f, fps', e, h1, h2⟩, hf => by
    subst e
    exact ⟨f, fps', rfl, Rep.frame h1 fun b hb => hf b (by simp [hb]), h2.frame fun b hb => hf b (by rw [List.flatten_cons]; exact List.mem_append_right _ hb)⟩
theorem InF.live {h : Heap} : ∀ {z : List El} {fps : List (List Nat)}, InF h z fps → ∀ b ∈ fps.flatten, b < h.length
  | [], fps, e, b, hb => by rw [show fps = [] from e] at hb; simp at hb
  | p :: z, fps, ⟨f, fps', e, h1, h2⟩, b, hb => by
    subst e
    rw [List.flatten_cons] at hb
    rcases List.mem_append.1 hb with hb | hb
    · exact Rep.live h1 b hb
    · exact h2.live b hb
theorem InF.mem {h : Heap} : ∀ {z : List El} {fps : List (List Nat)}, InF h z fps → ∀ p ∈ z, Here h p.1 p.2.c
  | [], _, _, p, hp => by simp at hp
  | q :: z, fps, ⟨f, fps', e, h1, h2⟩, p, hp => by
    rcases List.mem_cons.1 hp with rfl | hp
    · exact ⟨f, h1⟩
    · exact h2.mem p hp
theorem InF.perm {h : Heap} {z z' : List El} (hp : z.Perm z') : ∀ {fps : List (List Nat)}, InF h z fps → ∃ fps', InF h z' fps' ∧ fps.flatten.Perm fps'.flatten := by
  induction hp with
  | nil => exact fun h1 => ⟨_, h1, .refl _⟩
  | cons x _ ih =>
    rintro fps ⟨f, fps', rfl, h1, h2⟩
    obtain ⟨g, h3, h4⟩ := ih h2
    exact ⟨f :: g, ⟨f, g, rfl, h1, h3⟩, by rw [List.flatten_cons, List.flatten_cons]; exact h4.append_left f⟩
  | swap x y l =>
    rintro fps ⟨f, fps', rfl, h1, g, fps2, rfl, h2, h3⟩
    exact ⟨g :: f :: fps2, ⟨g, _, rfl, h2, f, _, rfl, h1, h3⟩, by
      simp only [List.flatten_cons, ← List.append_assoc]
      exact List.perm_append_comm.append_right _⟩
  | trans _ _ ih1 ih2 =>
    intro fps h1
    obtain ⟨g, h2, h3⟩ := ih1 h1
    obtain ⟨k, h4, h5⟩ := ih2 h2
    exact ⟨k, h4, h3.trans h5⟩
def inA (z : List El) : Asr := ⟨fun h fp => ∃ fps, InF h z fps ∧ fp = fps.flatten, fun ⟨fps, o, e⟩ hf => ⟨fps, o.frame fun b hb => hf b (by rw [e]; exact hb), e⟩, fun ⟨fps, o, e⟩ b hb => o.live b (by rw [← e]; exact hb)⟩
theorem Cells.parts {h : Heap} : ∀ {l : List Bx} {cs : List Value} {fps : List (List Nat)}, Cells h l cs fps → ∃ z : List El, bxs z = l ∧ InF h z fps ∧ ∃ fq, Cells h (raws z) cs fq ∧ fq.flatten = []
  | [], cs, fps, hc => ⟨[], rfl, hc.2, [], ⟨hc.1, rfl⟩, rfl⟩
  | x :: l, cs, fps, ⟨c, f, cs', fps', e1, e2, hr, hc⟩ => by
    obtain ⟨z, h1, h2, fq, h3, h4⟩ := Cells.parts hc
    exact ⟨(x, ⟨c, Rep.len hr⟩) :: z, by simp [bxs, h1], ⟨f, fps', e2, hr, h2⟩, [] :: fq, ⟨c, [], cs', fq, e1, rfl, ⟨rfl, rfl⟩, h3⟩, by simpa using h4⟩
theorem Cells.whole {h : Heap} : ∀ {z : List El} {cs : List Value} {fps fq : List (List Nat)}, InF h z fps → Cells h (raws z) cs fq → Cells h (bxs z) cs fps ∧ fq.flatten = []
  | [], cs, fps, fq, h1, h2 => ⟨⟨h2.1, h1⟩, by rw [h2.2]; rfl⟩
  | p :: z, cs, fps, fq, ⟨f, fps', e, h1, h2⟩, ⟨c, g, cs', fq', e1, e2, hr, hc⟩ => by
    obtain ⟨h3, h4⟩ := Cells.whole h2 hc
    obtain ⟨rfl, rfl⟩ := hr
    exact ⟨⟨_, f, cs', fps', e1, e, h1, h3⟩, by rw [e2]; simpa using h4⟩
theorem Sep.parts {a h : Heap} {L : List Asr} {el : TypeId} {l : List Bx} {v : Value} (s : Sep a h (ownA el l v :: L)) : ∃ z : List El, bxs z = l ∧ Sep a h (ownA (α := Raw3) el (raws z) v :: inA z :: L) := by
  obtain ⟨e0, fp, ⟨f1, g1, rfl, h1, s⟩, hd, hn⟩ := s
  rcases Own.cases (show Own el h l v f1 from h1) with ⟨rfl, rfl, rfl⟩ | ⟨b, off, cap, k, fps, rfl, hle, k1, k2, k3, k4, rfl, hc⟩
  · exact ⟨[], rfl, e0, g1, ⟨[], g1, rfl, Own.nil el h, [], g1, rfl, ⟨[], rfl, rfl⟩, s⟩, by simpa using hd, by simpa using hn⟩
  · obtain ⟨z, hz, hi, fq, hq, hq0⟩ := Cells.parts hc
    subst hz
    have hlen : (bxs z).length = (raws z).length := by simp
    have hn0 : (bxs z).length ≤ 9223372036854775807 := h1.row.2.1
    refine ⟨z, rfl, e0, (b :: fps.flatten) ++ g1, ⟨[b], fps.flatten ++ g1, rfl, ?_, fps.flatten, g1, rfl, ⟨fps, hi, rfl⟩, s⟩, hd, hn⟩
    have := Own.mk' (α := Raw3) (l := raws z) (el := el) (h := h) (off := off) (cap := cap) (by rw [← hlen]; exact hle) (by rw [← hlen]; exact hn0) k1 k2 k3 k4 (by rw [← hlen]; exact hq) (by rw [hq0]; simp)
    rw [hq0, ← hlen] at this
    exact this
theorem Sep.whole {a h : Heap} {L : List Asr} {el : TypeId} {z : List El} {v : Value} (s : Sep a h (ownA (α := Raw3) el (raws z) v :: inA z :: L)) : Sep a h (ownA el (bxs z) v :: L) := by
  refine s.both.to ?_
  rintro fp ⟨f, g, rfl, h1, fps, hi, rfl⟩ hd
  have hlen : (bxs z).length = (raws z).length := by simp
  rcases Own.cases (show Own el h (raws z) v f from h1) with ⟨rfl, h2, rfl⟩ | ⟨b, off, cap, k, fq, rfl, hle, k1, k2, k3, k4, rfl, hc⟩
  · have : z = [] := by cases z with | nil => rfl | cons _ _ => simp at h2
    subst this
    exact ⟨[], Own.nil el h, List.nodup_nil, by simp⟩
  · obtain ⟨h3, h4⟩ := Cells.whole hi hc
    have hn0 : (raws z).length ≤ 9223372036854775807 := h1.row.2.1
    rw [h4] at hd
    refine ⟨b :: fps.flatten, ?_, by simpa using hd, fun c hc => by
      rcases List.mem_cons.1 hc with rfl | hc
      · simp
      · exact List.mem_append_right _ hc⟩
    have := Own.mk' (α := Bx) (l := bxs z) (el := el) (h := h) (off := off) (cap := cap) (by rw [hlen]; exact hle) (by rw [hlen]; exact hn0) k1 k2 k3 k4 (by rw [hlen]; exact h3) (by simpa using hd)
    rw [hlen] at this
    exact this
theorem Sep.inPerm {a h : Heap} {L : List Asr} {z z' : List El} (s : Sep a h (inA z :: L)) (hp : z.Perm z') : Sep a h (inA z' :: L) := by
  refine s.to ?_
  rintro fp ⟨fps, hi, rfl⟩ hd
  obtain ⟨fps', h1, h2⟩ := hi.perm hp
  exact ⟨_, ⟨fps', h1, rfl⟩, h2.nodup_iff.1 hd, fun b hb => h2.mem_iff.2 hb⟩
theorem Sep.inHere {a h : Heap} {L : List Asr} {z : List El} (s : Sep a h (inA z :: L)) {p : El} (hp : p ∈ z) : Here h p.1 p.2.c := by
  obtain ⟨fp, ⟨fps, hi, _⟩, _⟩ := s.get
  exact hi.mem p hp
/-- The state of a sort: the row's cells as they stand, and what is held. -/
abbrev St (a h : Heap) (z : List El) (v : Value) (L : List Asr) : Prop := Sep a h (ownA (α := Raw3) 42 (raws z) v :: inA z :: L)
theorem St.here {a h : Heap} {L : List Asr} {z : List El} {v : Value} (s : St a h z v L) {p : El} (hp : p ∈ z) : Here h p.1 p.2.c := Sep.inHere (Sep.tail s) hp
theorem St.cell {a h : Heap} {L : List Asr} {z : List El} {v : Value} (s : St a h z v L) {i : Nat} {p : El} (hp : z[i]? = some p) : cellsAt h (rowB v) (rowO v + i * 3) 3 = some p.2.c := by
  have hr : (raws z)[i]? = some p.2 := by simp [hp]
  obtain ⟨xs, x3, f, x4⟩ := (Sep.row s).at hr
  have x3 : cellsAt h (rowB v) (rowO v + i * 3) 3 = some xs := x3
  rw [x3, x4.1]
theorem St.len {a h : Heap} {L : List Asr} {z : List El} {v : Value} (s : St a h z v L) : IsRow v z.length := by
  have := (Sep.row s).isRow
  simpa using this
theorem St.done {a h : Heap} {L : List Asr} {z z' : List El} {v : Value} {m : List Raw3} (s : Sep a h (ownA (α := Raw3) 42 m v :: inA z :: L)) (hp : z.Perm z') (hm : m = raws z') : St a h z' v L := by
  subst hm
  exact (Sep.inPerm s.swap hp).swap
end Go.Proofs

/- Contracts of functions, facts of types, or the plain law behind one statement (own work): JF. Conditions: those told in each theorem. -/
import Derived.Test.YtkapgaajomaheaaGreatDoorJE
set_option linter.all false
set_option linter.unusedSimpArgs false
set_option linter.unusedVariables false
set_option maxRecDepth 4000
namespace Go.Proofs
open Go Go.V
/-! ### open paths: the plain law -/
theorem lastU_any {p : ByteArray} : ∀ (l : List Mk) (k : Int), (l.any (fun n => decide (n.path = p)) = true → ∀ k', lastU k l p = lastU k' l p) ∧ (l.any (fun n => decide (n.path = p)) = false → lastU k l p = k)
  | [], k => ⟨fun h => by simp at h, fun _ => rfl⟩
  | x :: l, k => by
    have ih := fun k => lastU_any (p := p) l k
    have e : ∀ k, lastU k (x :: l) p = lastU (if x.path = p then x.kind else k) l p := fun k => by unfold lastU; rw [List.foldl_cons]
    simp only [List.any_cons]
    by_cases c : x.path = p
    · rw [decide_eq_true c, Bool.true_or]
      exact ⟨fun _ k' => by rw [e, e, if_pos c, if_pos c], fun h => by cases h⟩
    · rw [decide_eq_false c, Bool.false_or]
      exact ⟨fun h k' => by rw [e, e, if_neg c, if_neg c]; exact (ih k).1 h k', fun h => by rw [e, if_neg c]; exact (ih k).2 h⟩
def hasP (l : List Mk) (p : ByteArray) : Bool := l.any fun n => decide (n.path = p)
theorem lasts_iff {m : Mk} : ∀ {l : List Mk}, m ∈ lastsL l ↔ hasP l m.path = true ∧ lastK l m.path = m.kind
  | [] => by simp [lastsL, hasP]
  | x :: l => by
    have ih := lasts_iff (m := m) (l := l)
    have hl := lastU_any (p := m.path) l
    have e : lastK (x :: l) m.path = lastU (if x.path = m.path then x.kind else 0) l m.path := by unfold lastK lastU; rw [List.foldl_cons]
    have eh : hasP (x :: l) m.path = (decide (x.path = m.path) || hasP l m.path) := rfl
    have hsame : l.any (sameP x) = hasP l x.path := rfl
    simp only [lastsL]
    rw [hsame, e, eh]
    by_cases c : x.path = m.path
    · rw [if_pos c, decide_eq_true c, Bool.true_or]
      cases hh : hasP l x.path with
      | true =>
        rw [if_pos rfl, ih, ← c, hh]
        have := ((hl x.kind).1 (by rw [← c]; exact hh)) 0
        rw [← c] at this
        unfold lastK
        rw [this]
      | false =>
        rw [if_neg (by decide), List.mem_cons, ih, ← c, hh]
        have := (hl x.kind).2 (by rw [← c]; exact hh)
        rw [← c] at this
        rw [this]
        constructor
        · rintro (h | h)
          · subst h; exact ⟨rfl, rfl⟩
          · cases h.1
        · rintro ⟨_, h⟩
          left
          obtain ⟨mp, mk⟩ := m
          obtain ⟨xp, xk⟩ := x
          simp only at c h
          subst c; subst h; rfl
    · rw [if_neg c, decide_eq_false c, Bool.false_or]
      split
      · exact ih
      · rw [List.mem_cons]
        constructor
        · rintro (h | h)
          · subst h; exact absurd rfl c
          · exact ih.1 h
        · intro h; exact .inr (ih.2 h)
theorem lasts_nodup : ∀ l : List Mk, ((lastsL l).map (·.path)).Nodup
  | [] => List.nodup_nil
  | x :: l => by
    simp only [lastsL]
    split
    · exact lasts_nodup l
    · rename_i h
      rw [List.map_cons]
      refine List.nodup_cons.2 ⟨fun hm => ?_, lasts_nodup l⟩
      obtain ⟨m, hm, e⟩ := List.mem_map.1 hm
      exact h (List.any_eq_true.2 ⟨m, lastsL_mem hm, decide_eq_true e⟩)
def shutB (m n : Mk) : Bool := decide (n.kind ≠ 3) && inS m.path n.path
def openF (l r : List Mk) : List ByteArray := (r.filter fun m => decide (m.kind = 3) && !l.any (shutB m)).map (·.path)
def badS (all : List Mk) (m x : Mk) : Bool := decide (x.path ≠ m.path) && inS m.path x.path && decide (lastK all x.path ≠ 3)
def openS (all : List Mk) (m : Mk) : Bool := decide (lastK all m.path = 3) && !all.any (badS all m)
def openP (all : List Mk) (out : List ByteArray) : List Mk → List ByteArray
  | [] => out
  | m :: r => openP all (if openS all m = true then putS m.path out else out) r
theorem openP_spec {all : List Mk} : ∀ (r : List Mk) (out : List ByteArray), srt out → srt (openP all out r) ∧ ∀ x, x ∈ openP all out r ↔ x ∈ out ∨ ∃ m ∈ r, x = m.path ∧ openS all m = true
  | [], out, h => ⟨h, fun x => by simp [openP]⟩
  | m :: r, out, h => by
    simp only [openP]
    cases c : openS all m with
    | true =>
      rw [if_pos rfl]
      obtain ⟨h3, h4⟩ := openP_spec (all := all) r _ (putS_srt (s := m.path) h)
      refine ⟨h3, fun x => ?_⟩
      rw [h4, putS_mem]
      constructor
      · rintro ((h | h) | ⟨n, hn, h⟩)
        · exact .inr ⟨m, by simp, h, c⟩
        · exact .inl h
        · exact .inr ⟨n, by simp [hn], h⟩
      · rintro (h | ⟨n, hn, h⟩)
        · exact .inl (.inr h)
        · rcases List.mem_cons.1 hn with rfl | hn
          · exact .inl (.inl h.1)
          · exact .inr ⟨n, hn, h⟩
    | false =>
      rw [if_neg (by decide)]
      obtain ⟨h3, h4⟩ := openP_spec (all := all) r _ h
      refine ⟨h3, fun x => ?_⟩
      rw [h4]
      constructor
      · rintro (h | ⟨n, hn, h⟩)
        · exact .inl h
        · exact .inr ⟨n, by simp [hn], h⟩
      · rintro (h | ⟨n, hn, h⟩)
        · exact .inl h
        · rcases List.mem_cons.1 hn with rfl | hn
          · rw [c] at h; cases h.2
          · exact .inr ⟨n, hn, h⟩
theorem open_one {l : List Mk} {m : Mk} (hm : hasP l m.path = true) (h3 : lastK l m.path = 3) : (lastsL l).any (shutB ⟨m.path, 3⟩) = l.any (badS l m) := by
  rw [Bool.eq_iff_iff, List.any_eq_true, List.any_eq_true]
  constructor
  · rintro ⟨n, hn, hs⟩
    unfold shutB at hs
    rw [Bool.and_eq_true, decide_eq_true_iff] at hs
    obtain ⟨h1, h2⟩ := lasts_iff.1 hn
    obtain ⟨x, hx, hp⟩ := List.any_eq_true.1 h1
    have hp := of_decide_eq_true hp
    refine ⟨x, hx, ?_⟩
    unfold badS
    rw [hp, Bool.and_eq_true, Bool.and_eq_true, decide_eq_true_iff, decide_eq_true_iff, h2]
    refine ⟨⟨fun e => ?_, hs.2⟩, hs.1⟩
    rw [e, h3] at h2
    exact hs.1 h2.symm
  · rintro ⟨x, hx, hb⟩
    unfold badS at hb
    rw [Bool.and_eq_true, Bool.and_eq_true, decide_eq_true_iff, decide_eq_true_iff] at hb
    refine ⟨⟨x.path, lastK l x.path⟩, lasts_iff.2 ⟨List.any_eq_true.2 ⟨x, hx, decide_eq_true rfl⟩, rfl⟩, ?_⟩
    unfold shutB
    rw [Bool.and_eq_true, decide_eq_true_iff]
    exact ⟨hb.2, hb.1.2⟩
theorem open_eq (l : List Mk) : openP l [] l = sortO (openF (lastsL l) (lastsL l)) := by
  obtain ⟨h1, h2⟩ := openP_spec (all := l) l [] List.Pairwise.nil
  have hnd : (openF (lastsL l) (lastsL l)).Nodup := by
    unfold openF
    exact (lasts_nodup l).sublist (List.Sublist.map _ List.filter_sublist)
  obtain ⟨h3, h4⟩ := sortO_spec _ hnd
  refine srt_ext h1 h3 fun x => ?_
  rw [h2, h4]
  unfold openF
  rw [List.mem_map]
  constructor
  · rintro (h | ⟨m, hm, rfl, h⟩)
    · cases h
    · unfold openS at h
      rw [Bool.and_eq_true, decide_eq_true_iff] at h
      have hp : hasP l m.path = true := List.any_eq_true.2 ⟨m, hm, decide_eq_true rfl⟩
      refine ⟨⟨m.path, 3⟩, List.mem_filter.2 ⟨lasts_iff.2 ⟨hp, h.1⟩, ?_⟩, rfl⟩
      rw [open_one hp h.1]
      simpa using h.2
  · rintro ⟨m, hm, rfl⟩
    obtain ⟨hm, h⟩ := List.mem_filter.1 hm
    rw [Bool.and_eq_true, decide_eq_true_iff] at h
    obtain ⟨hp, hk⟩ := lasts_iff.1 hm
    obtain ⟨x, hx, e⟩ := List.any_eq_true.1 hp
    have e := of_decide_eq_true e
    rw [h.1] at hk
    have hmm : m = ⟨m.path, 3⟩ := by obtain ⟨a, b⟩ := m; simp only at h; rw [h.1]
    rw [hmm, open_one hp hk] at h
    refine .inr ⟨x, hx, e.symm, ?_⟩
    unfold openS
    rw [Bool.and_eq_true, decide_eq_true_iff, e]
    refine ⟨hk, ?_⟩
    have hb : badS l x = badS l m := by funext y; unfold badS; rw [e]
    rw [hb]
    exact h.2
/-! ### OpenPaths -/
def openM (j : Jn) : List ByteArray × Bool := match marksJ j with
  | some l => (sortO (openF (lastsL l) (lastsL l)), true)
  | none => ([], false)
theorem open1_c {m n : Mk} {cs : List Value} {b : Nat} {h : Heap} {Q : Value → Heap → Prop} (hm : Here h n cs) (hn : At h b 0 m) (z1 : m.path.size ≤ 1000000000) (z2 : n.path.size ≤ 1000000000) (hQ : ∀ h', Ext h h' → Q (.bool (shutB m n)) h') :
    CallsV Tryz.prog 35 [.agg cs.toArray, .pointer (some ⟨b, 0, none⟩)] h Q := by
  obtain ⟨rfl, f1, f2⟩ := here_Mk hm
  refine CallsV.start Tryz.func35 rfl (by rw [Tryz.results35]) (by kernel_rfl) (by rw [Tryz.ntmps35]; simp) ?_
  have s := Sep.blk1 h [.string n.path, .int .i64 n.kind] 26 true
  have g := s.rd
  obtain ⟨x1, _⟩ := at_Mk (hn.ext s.ext)
  unfold shutB at hQ
  simp (disch := omega) only [VW, VY, VZ, VA, VB, VC, VE, TY, ↓reduceIte, Nat.reduceEqDiff, Nat.reduceAdd, Nat.reduceMul, Nat.reduceSub, Nat.reduceLeDiff, List.length_cons, List.length_nil, List.length_append, List.append_assoc, List.take_succ_cons, List.take_zero, List.drop_succ_cons, List.drop_zero, List.set_cons_zero, List.set_cons_succ, true_or, or_true, and_self, Bool.false_eq_true, Nat.le_refl, Option.bind_some, Option.map_some, Option.getD_some, Option.isSome_some, List.map_cons, List.map_nil, List.cons_append, List.nil_append, List.append_nil, List.getElem?_cons_zero, List.getElem?_cons_succ, eq_self, Int.reduceLT, Int.reduceLE, Int.reduceNeg, Int.reduceEq, g]
  by_cases c : n.kind = 3
  · rw [decide_eq_false (not_not_intro c), Bool.false_and] at hQ
    have c' := decide_eq_true c
    simp (disch := omega) only [VW, VY, VZ, VA, VB, VC, VE, TY, ↓reduceIte, Nat.reduceEqDiff, Nat.reduceAdd, Nat.reduceMul, Nat.reduceSub, Nat.reduceLeDiff, List.length_cons, List.length_nil, List.length_append, List.append_assoc, List.take_succ_cons, List.take_zero, List.drop_succ_cons, List.drop_zero, List.set_cons_zero, List.set_cons_succ, true_or, or_true, and_self, Bool.false_eq_true, Nat.le_refl, Option.bind_some, Option.map_some, Option.getD_some, Option.isSome_some, List.map_cons, List.map_nil, List.cons_append, List.nil_append, List.append_nil, List.getElem?_cons_zero, List.getElem?_cons_succ, eq_self, Int.reduceLT, Int.reduceLE, Int.reduceNeg, Int.reduceEq, c']
    exact hQ _ s.ext
  · rw [decide_eq_true c, Bool.true_and] at hQ
    have c' := decide_eq_false c
    simp (disch := omega) only [VW, VY, VZ, VA, VB, VC, VE, TY, ↓reduceIte, Nat.reduceEqDiff, Nat.reduceAdd, Nat.reduceMul, Nat.reduceSub, Nat.reduceLeDiff, List.length_cons, List.length_nil, List.length_append, List.append_assoc, List.take_succ_cons, List.take_zero, List.drop_succ_cons, List.drop_zero, List.set_cons_zero, List.set_cons_succ, true_or, or_true, and_self, Bool.false_eq_true, Nat.le_refl, Option.bind_some, Option.map_some, Option.getD_some, Option.isSome_some, List.map_cons, List.map_nil, List.cons_append, List.nil_append, List.append_nil, List.getElem?_cons_zero, List.getElem?_cons_succ, eq_self, Int.reduceLT, Int.reduceLE, Int.reduceNeg, Int.reduceEq, c', g, x1]
    refine .inl ⟨by kernel_rfl, ?_⟩; refine hasPrefix_c z1 z2 ?_
    simp (disch := omega) only [VW, VY, VZ, VA, VB, VC, VE, TY, ↓reduceIte, Nat.reduceEqDiff, Nat.reduceAdd, Nat.reduceMul, Nat.reduceSub, Nat.reduceLeDiff, List.length_cons, List.length_nil, List.length_append, List.append_assoc, List.take_succ_cons, List.take_zero, List.drop_succ_cons, List.drop_zero, List.set_cons_zero, List.set_cons_succ, true_or, or_true, and_self, Bool.false_eq_true, Nat.le_refl, Option.bind_some, Option.map_some, Option.getD_some, Option.isSome_some, List.map_cons, List.map_nil, List.cons_append, List.nil_append, List.append_nil, List.getElem?_cons_zero, List.getElem?_cons_succ, eq_self, Int.reduceLT, Int.reduceLE, Int.reduceNeg, Int.reduceEq]
    exact hQ _ s.ext
theorem openF_take {l r : List Mk} {i : Nat} {x : Mk} (h : r[i]? = some x) : openF l (r.take (i + 1)) = openF l (r.take i) ++ (if (decide (x.kind = 3) && !l.any (shutB x)) = true then [x.path] else []) := by
  unfold openF
  rw [List.take_add_one, h, List.filter_append, List.map_append]
  congr 1
  simp only [Option.toList_some, List.filter_cons, List.filter_nil]
  split <;> rfl
theorem openF_len (l r : List Mk) : (openF l r).length ≤ r.length := by
  unfold openF; rw [List.length_map]; exact List.length_filter_le _ _
theorem openF_mem {l r : List Mk} {x : ByteArray} (h : x ∈ openF l r) : ∃ m ∈ r, x = m.path := by
  unfold openF at h
  obtain ⟨m, hm, rfl⟩ := List.mem_map.1 h
  exact ⟨m, (List.mem_filter.1 hm).1, rfl⟩
theorem OpenPaths_i {j : Jn} {cs : List Value} {h : Heap} {Q : Value → Heap → Prop} (hx : Here h j cs) (n : Siz.siz j ≤ 1000000)
    (hQ : ∀ w h', Sep h h' [repA (α := List ByteArray) (openM j).1 [w]] → Q (.tuple #[w, .bool (openM j).2]) h') : CallsV Tryz.prog 11 [.agg cs.toArray] h Q := by
  obtain ⟨rfl, f1, f2⟩ := here_Jn hx
  obtain ⟨z1, z2⟩ := siz_Jn n
  refine CallsV.start Tryz.func11 rfl (by rw [Tryz.results11]) (by kernel_rfl) (by rw [Tryz.ntmps11]; simp) ?_
  have s := Sep.blk1 h [.string j.safe, .string j.pending] 24 true
  unfold openM at hQ
  simp (disch := omega) only [VW, VY, VZ, VA, VB, VC, VE, TY, ↓reduceIte, Nat.reduceEqDiff, Nat.reduceAdd, Nat.reduceMul, Nat.reduceSub, Nat.reduceLeDiff, List.length_cons, List.length_nil, List.length_append, List.append_assoc, List.take_succ_cons, List.take_zero, List.drop_succ_cons, List.drop_zero, List.set_cons_zero, List.set_cons_succ, true_or, or_true, and_self, Bool.false_eq_true, Nat.le_refl, Option.bind_some, Option.map_some, Option.getD_some, Option.isSome_some, List.map_cons, List.map_nil, List.cons_append, List.nil_append, List.append_nil, List.getElem?_cons_zero, List.getElem?_cons_succ, eq_self, Int.reduceLT, Int.reduceLE, Int.reduceNeg, Int.reduceEq]
  refine .inl ⟨by kernel_rfl, ?_⟩; refine marksOf_c z1 z2 (fun l0 v h' e s2 => ?_) (fun e h' E => ?_)
  · have hn := marksJ_len e
    have hmk := marks_in e
    rw [e] at hQ
    dsimp only at hQ
    have s := s.add s2
    simp (disch := omega) only [VW, VY, VZ, VA, VB, VC, VE, TY, ↓reduceIte, Nat.reduceEqDiff, Nat.reduceAdd, Nat.reduceMul, Nat.reduceSub, Nat.reduceLeDiff, List.length_cons, List.length_nil, List.length_append, List.append_assoc, List.take_succ_cons, List.take_zero, List.drop_succ_cons, List.drop_zero, List.set_cons_zero, List.set_cons_succ, true_or, or_true, and_self, Bool.false_eq_true, Nat.le_refl, Option.bind_some, Option.map_some, Option.getD_some, Option.isSome_some, List.map_cons, List.map_nil, List.cons_append, List.nil_append, List.append_nil, List.getElem?_cons_zero, List.getElem?_cons_succ, eq_self, Int.reduceLT, Int.reduceLE, Int.reduceNeg, Int.reduceEq]
    refine .inl ⟨by kernel_rfl, ?_⟩; refine lastMarks_c s2.row (by omega) fun v h3 s3 => ?_
    have s := s.add s3
    have hll := lastsL_len l0
    have hmk : ∀ m ∈ lastsL l0, markM m = true := fun m hm => hmk m (lastsL_mem hm)
    generalize hL : lastsL l0 = l at *
    have rl := s3.row
    simp (disch := omega) only [VW, VY, VZ, VA, VB, VC, VE, TY, ↓reduceIte, Nat.reduceEqDiff, Nat.reduceAdd, Nat.reduceMul, Nat.reduceSub, Nat.reduceLeDiff, List.length_cons, List.length_nil, List.length_append, List.append_assoc, List.take_succ_cons, List.take_zero, List.drop_succ_cons, List.drop_zero, List.set_cons_zero, List.set_cons_succ, true_or, or_true, and_self, Bool.false_eq_true, Nat.le_refl, Option.bind_some, Option.map_some, Option.getD_some, Option.isSome_some, List.map_cons, List.map_nil, List.cons_append, List.nil_append, List.append_nil, List.getElem?_cons_zero, List.getElem?_cons_succ, eq_self, Int.reduceLT, Int.reduceLE, Int.reduceNeg, Int.reduceEq, rl.isRow.len]
    refine loop_rule (fun n e h4 => ∃ (i : Nat) (w : Value), e 6 = v ∧ e 19 = v ∧ e 20 = .int .i64 l.length ∧ e 21 = .int .i64 i ∧ e 7 = w ∧ i ≤ l.length ∧ n = l.length - i ∧ Sep h h4 [ownA 9 (openF l (l.take i)) w, ownA 26 l v]) ?_ l.length _ _ ⟨0, _, rfl, rfl, rfl, rfl, rfl, Nat.zero_le _, rfl, (Sep.keep (L := [_]) s).nilA _⟩
    rintro n e h4 ⟨i, w, e4, e16, e17, e18, e6, hi, rfl, s⟩
    simp (disch := omega) only [VW, VY, VZ, VA, VB, VC, VE, TY, ↓reduceIte, Nat.reduceEqDiff, Nat.reduceAdd, Nat.reduceMul, Nat.reduceSub, Nat.reduceLeDiff, List.length_cons, List.length_nil, List.length_append, List.append_assoc, List.take_succ_cons, List.take_zero, List.drop_succ_cons, List.drop_zero, List.set_cons_zero, List.set_cons_succ, true_or, or_true, and_self, Bool.false_eq_true, Nat.le_refl, Option.bind_some, Option.map_some, Option.getD_some, Option.isSome_some, List.map_cons, List.map_nil, List.cons_append, List.nil_append, List.append_nil, List.getElem?_cons_zero, List.getElem?_cons_succ, eq_self, Int.reduceLT, Int.reduceLE, Int.reduceNeg, Int.reduceEq, e17, e18]
    have rl := (s.pull 1 rfl).row
    by_cases hlt : i < l.length
    · obtain ⟨x, hx⟩ := get_some hlt
      have c1 : (i : Int) < (l.length : Int) := by omega
      have hxm := hmk x (List.mem_of_getElem? hx)
      have hxp := markM_path hxm
      obtain ⟨cs, x3, x4⟩ := Row.at rl hx
      obtain ⟨rfl, f1, f2⟩ := here_Mk x4
      rw [Mk.sz] at x3
      have hct := openF_take (l := l) hx
      have hcl := openF_len l (l.take i)
      rw [List.length_take] at hcl
      have sb := s.newBlk [.string x.path, .int .i64 x.kind] 26 true
      have g := sb.rd
      simp (disch := omega) only [VW, VY, VZ, VA, VB, VC, VE, TY, ↓reduceIte, Nat.reduceEqDiff, Nat.reduceAdd, Nat.reduceMul, Nat.reduceSub, Nat.reduceLeDiff, List.length_cons, List.length_nil, List.length_append, List.append_assoc, List.take_succ_cons, List.take_zero, List.drop_succ_cons, List.drop_zero, List.set_cons_zero, List.set_cons_succ, true_or, or_true, and_self, Bool.false_eq_true, Nat.le_refl, Option.bind_some, Option.map_some, Option.getD_some, Option.isSome_some, List.map_cons, List.map_nil, List.cons_append, List.nil_append, List.append_nil, List.getElem?_cons_zero, List.getElem?_cons_succ, eq_self, Int.reduceLT, Int.reduceLE, Int.reduceNeg, Int.reduceEq, c1, e16, e18, rl.isRow.ix, x3, g]
      by_cases ck : x.kind = 3
      · rw [decide_eq_true ck, Bool.true_and] at hct
        have rl2 := (sb.pull 2 rfl).row
        have ck' := decide_eq_true ck
        simp (disch := omega) only [VW, VY, VZ, VA, VB, VC, VE, TY, ↓reduceIte, Nat.reduceEqDiff, Nat.reduceAdd, Nat.reduceMul, Nat.reduceSub, Nat.reduceLeDiff, List.length_cons, List.length_nil, List.length_append, List.append_assoc, List.take_succ_cons, List.take_zero, List.drop_succ_cons, List.drop_zero, List.set_cons_zero, List.set_cons_succ, true_or, or_true, and_self, Bool.false_eq_true, Nat.le_refl, Option.bind_some, Option.map_some, Option.getD_some, Option.isSome_some, List.map_cons, List.map_nil, List.cons_append, List.nil_append, List.append_nil, List.getElem?_cons_zero, List.getElem?_cons_succ, eq_self, Int.reduceLT, Int.reduceLE, Int.reduceNeg, Int.reduceEq, ck', e4]
        refine ⟨rfl, ?_⟩
        refine .inl ⟨by kernel_rfl, ?_⟩; refine containsFuncMk_c (p := shutB x) rl2 (fun m cs h' K hm E hm2 hK => ?_) fun h5 E5 => ?_
        · refine .inl ⟨by kernel_rfl, ?_⟩
          have sb' := sb.mono E
          have hmp := markM_path (hmk m hm)
          exact open1_c hm2 (sb'.ptr (mk_Mk f1 f2)) (by omega) (by omega) hK
        · have sb := sb.mono E5
          have g := sb.rd
          cases hany : l.any (shutB x) with
          | false =>
            rw [hany, Bool.not_false, if_pos rfl] at hct
            have sb := sb.tail.rep0 (rep_str (x := x.path) (by omega))
            simp (disch := omega) only [VW, VY, VZ, VA, VB, VC, VE, TY, ↓reduceIte, Nat.reduceEqDiff, Nat.reduceAdd, Nat.reduceMul, Nat.reduceSub, Nat.reduceLeDiff, List.length_cons, List.length_nil, List.length_append, List.append_assoc, List.take_succ_cons, List.take_zero, List.drop_succ_cons, List.drop_zero, List.set_cons_zero, List.set_cons_succ, true_or, or_true, and_self, Bool.false_eq_true, Nat.le_refl, Option.bind_some, Option.map_some, Option.getD_some, Option.isSome_some, List.map_cons, List.map_nil, List.cons_append, List.nil_append, List.append_nil, List.getElem?_cons_zero, List.getElem?_cons_succ, eq_self, Int.reduceLT, Int.reduceLE, Int.reduceNeg, Int.reduceEq, e6, g]
            refine sep_append (Sep.swap sb) rfl rfl te35 tk9 rfl (by decide) (by simp only []; omega) fun v5 h5 sp => ?_
            rw [← hct] at sp
            simp (disch := omega) only [VW, VY, VZ, VA, VB, VC, VE, TY, ↓reduceIte, Nat.reduceEqDiff, Nat.reduceAdd, Nat.reduceMul, Nat.reduceSub, Nat.reduceLeDiff, List.length_cons, List.length_nil, List.length_append, List.append_assoc, List.take_succ_cons, List.take_zero, List.drop_succ_cons, List.drop_zero, List.set_cons_zero, List.set_cons_succ, true_or, or_true, and_self, Bool.false_eq_true, Nat.le_refl, Option.bind_some, Option.map_some, Option.getD_some, Option.isSome_some, List.map_cons, List.map_nil, List.cons_append, List.nil_append, List.append_nil, List.getElem?_cons_zero, List.getElem?_cons_succ, eq_self, Int.reduceLT, Int.reduceLE, Int.reduceNeg, Int.reduceEq, e4, e16, e17, e18, wrap_in]
            exact ⟨_, by omega, i + 1, v5, by simp, rfl, by omega, rfl, sp⟩
          | true =>
            rw [hany, Bool.not_true, if_neg (by decide), List.append_nil] at hct
            rw [← hct] at sb
            simp (disch := omega) only [VW, VY, VZ, VA, VB, VC, VE, TY, ↓reduceIte, Nat.reduceEqDiff, Nat.reduceAdd, Nat.reduceMul, Nat.reduceSub, Nat.reduceLeDiff, List.length_cons, List.length_nil, List.length_append, List.append_assoc, List.take_succ_cons, List.take_zero, List.drop_succ_cons, List.drop_zero, List.set_cons_zero, List.set_cons_succ, true_or, or_true, and_self, Bool.false_eq_true, Nat.le_refl, Option.bind_some, Option.map_some, Option.getD_some, Option.isSome_some, List.map_cons, List.map_nil, List.cons_append, List.nil_append, List.append_nil, List.getElem?_cons_zero, List.getElem?_cons_succ, eq_self, Int.reduceLT, Int.reduceLE, Int.reduceNeg, Int.reduceEq, e4, e6, e16, e17, e18, wrap_in]
            exact ⟨_, by omega, i + 1, w, by simp, rfl, by omega, rfl, sb.tail⟩
      · rw [decide_eq_false ck, Bool.false_and, if_neg (by decide), List.append_nil] at hct
        rw [← hct] at sb
        simp (disch := omega) only [VW, VY, VZ, VA, VB, VC, VE, TY, ↓reduceIte, Nat.reduceEqDiff, Nat.reduceAdd, Nat.reduceMul, Nat.reduceSub, Nat.reduceLeDiff, List.length_cons, List.length_nil, List.length_append, List.append_assoc, List.take_succ_cons, List.take_zero, List.drop_succ_cons, List.drop_zero, List.set_cons_zero, List.set_cons_succ, true_or, or_true, and_self, Bool.false_eq_true, Nat.le_refl, Option.bind_some, Option.map_some, Option.getD_some, Option.isSome_some, List.map_cons, List.map_nil, List.cons_append, List.nil_append, List.append_nil, List.getElem?_cons_zero, List.getElem?_cons_succ, eq_self, Int.reduceLT, Int.reduceLE, Int.reduceNeg, Int.reduceEq, ck, e4, e6, e16, e17, e18, wrap_in]
        exact ⟨_, by omega, i + 1, w, by simp, rfl, by omega, rfl, sb.tail⟩
    · obtain rfl : i = l.length := by omega
      have c1 : ¬ (l.length : Int) < (l.length : Int) := by omega
      rw [List.take_length] at s
      have hcl := openF_len l l
      have hzz : ∀ x ∈ openF l l, x.size ≤ 9223372036854775807 := by
        intro x hx
        obtain ⟨m, hm, rfl⟩ := openF_mem hx
        have := markM_path (hmk m hm)
        omega
      simp (disch := omega) only [VW, VY, VZ, VA, VB, VC, VE, TY, ↓reduceIte, Nat.reduceEqDiff, Nat.reduceAdd, Nat.reduceMul, Nat.reduceSub, Nat.reduceLeDiff, List.length_cons, List.length_nil, List.length_append, List.append_assoc, List.take_succ_cons, List.take_zero, List.drop_succ_cons, List.drop_zero, List.set_cons_zero, List.set_cons_succ, true_or, or_true, and_self, Bool.false_eq_true, Nat.le_refl, Option.bind_some, Option.map_some, Option.getD_some, Option.isSome_some, List.map_cons, List.map_nil, List.cons_append, List.nil_append, List.append_nil, List.getElem?_cons_zero, List.getElem?_cons_succ, eq_self, Int.reduceLT, Int.reduceLE, Int.reduceNeg, Int.reduceEq, c1, e6]
      refine .inl ⟨by kernel_rfl, ?_⟩; refine sortS_c s (by omega) hzz fun h5 s => ?_
      have pl := row_plain s.row.isRow
      simp (disch := omega) only [VW, VY, VZ, VA, VB, VC, VE, TY, ↓reduceIte, Nat.reduceEqDiff, Nat.reduceAdd, Nat.reduceMul, Nat.reduceSub, Nat.reduceLeDiff, List.length_cons, List.length_nil, List.length_append, List.append_assoc, List.take_succ_cons, List.take_zero, List.drop_succ_cons, List.drop_zero, List.set_cons_zero, List.set_cons_succ, true_or, or_true, and_self, Bool.false_eq_true, Nat.le_refl, Option.bind_some, Option.map_some, Option.getD_some, Option.isSome_some, List.map_cons, List.map_nil, List.cons_append, List.nil_append, List.append_nil, List.getElem?_cons_zero, List.getElem?_cons_succ, eq_self, Int.reduceLT, Int.reduceLE, Int.reduceNeg, Int.reduceEq, e6, pl]
      exact hQ _ _ s.toRep.head
  · rw [e] at hQ
    have s := s.mono E
    simp (disch := omega) only [VW, VY, VZ, VA, VB, VC, VE, TY, ↓reduceIte, Nat.reduceEqDiff, Nat.reduceAdd, Nat.reduceMul, Nat.reduceSub, Nat.reduceLeDiff, List.length_cons, List.length_nil, List.length_append, List.append_assoc, List.take_succ_cons, List.take_zero, List.drop_succ_cons, List.drop_zero, List.set_cons_zero, List.set_cons_succ, true_or, or_true, and_self, Bool.false_eq_true, Nat.le_refl, Option.bind_some, Option.map_some, Option.getD_some, Option.isSome_some, List.map_cons, List.map_nil, List.cons_append, List.nil_append, List.append_nil, List.getElem?_cons_zero, List.getElem?_cons_succ, eq_self, Int.reduceLT, Int.reduceLE, Int.reduceNeg, Int.reduceEq]
    exact hQ _ _ (((Sep.nil s.ext).nilA 9).toRep)
theorem OpenPaths_s {j : Jn} {cs : List Value} {h : Heap} {Q : Value → Heap → Prop} (hx : Here h j cs) (n : Siz.siz j ≤ 1000000)
    (hQ : ∀ w h', Sep h h' [repA (α := List ByteArray) (openM j).1 [w]] → Q (.tuple #[w, .bool (openM j).2]) h') : CallsV Tryz.prog 12 [.agg cs.toArray] h Q := by
  obtain ⟨rfl, f1, f2⟩ := here_Jn hx
  obtain ⟨z1, z2⟩ := siz_Jn n
  refine CallsV.start Tryz.func12 rfl (by rw [Tryz.results12]) (by kernel_rfl) (by rw [Tryz.ntmps12]; simp) ?_
  have s := Sep.blk1 h [.string j.safe, .string j.pending] 24 true
  unfold openM at hQ
  simp (disch := omega) only [VW, VY, VZ, VA, VB, VC, VE, TY, ↓reduceIte, Nat.reduceEqDiff, Nat.reduceAdd, Nat.reduceMul, Nat.reduceSub, Nat.reduceLeDiff, List.length_cons, List.length_nil, List.length_append, List.append_assoc, List.take_succ_cons, List.take_zero, List.drop_succ_cons, List.drop_zero, List.set_cons_zero, List.set_cons_succ, true_or, or_true, and_self, Bool.false_eq_true, Nat.le_refl, Option.bind_some, Option.map_some, Option.getD_some, Option.isSome_some, List.map_cons, List.map_nil, List.cons_append, List.nil_append, List.append_nil, List.getElem?_cons_zero, List.getElem?_cons_succ, eq_self, Int.reduceLT, Int.reduceLE, Int.reduceNeg, Int.reduceEq]
  refine .inl ⟨by kernel_rfl, ?_⟩; refine jrGood_c z1 z2 fun h2 E2 => ?_
  have s := s.mono E2
  cases e : marksJ j with
  | none =>
    rw [e] at hQ
    simp (disch := omega) only [VW, VY, VZ, VA, VB, VC, VE, TY, ↓reduceIte, Nat.reduceEqDiff, Nat.reduceAdd, Nat.reduceMul, Nat.reduceSub, Nat.reduceLeDiff, List.length_cons, List.length_nil, List.length_append, List.append_assoc, List.take_succ_cons, List.take_zero, List.drop_succ_cons, List.drop_zero, List.set_cons_zero, List.set_cons_succ, true_or, or_true, and_self, Bool.false_eq_true, Nat.le_refl, Option.bind_some, Option.map_some, Option.getD_some, Option.isSome_some, List.map_cons, List.map_nil, List.cons_append, List.nil_append, List.append_nil, List.getElem?_cons_zero, List.getElem?_cons_succ, eq_self, Int.reduceLT, Int.reduceLE, Int.reduceNeg, Int.reduceEq, Option.isSome_none]
    exact hQ _ _ (((Sep.nil s.ext).nilA 9).toRep)
  | some l =>
    have hn := marksJ_len e
    have hmk := marks_in e
    rw [e] at hQ
    dsimp only at hQ
    rw [← open_eq] at hQ
    have ga := s.rdAll (n := 2) rfl
    simp (disch := omega) only [VW, VY, VZ, VA, VB, VC, VE, TY, ↓reduceIte, Nat.reduceEqDiff, Nat.reduceAdd, Nat.reduceMul, Nat.reduceSub, Nat.reduceLeDiff, List.length_cons, List.length_nil, List.length_append, List.append_assoc, List.take_succ_cons, List.take_zero, List.drop_succ_cons, List.drop_zero, List.set_cons_zero, List.set_cons_succ, true_or, or_true, and_self, Bool.false_eq_true, Nat.le_refl, Option.bind_some, Option.map_some, Option.getD_some, Option.isSome_some, List.map_cons, List.map_nil, List.cons_append, List.nil_append, List.append_nil, List.getElem?_cons_zero, List.getElem?_cons_succ, eq_self, Int.reduceLT, Int.reduceLE, Int.reduceNeg, Int.reduceEq, Option.isSome_some, ga]
    refine .inl ⟨by kernel_rfl, ?_⟩; refine jrAll_c e fun v h3 s3 => ?_
    have s := s.add s3
    have rl := s3.row
    have pl := row_plain s3.row.isRow
    simp (disch := omega) only [VW, VY, VZ, VA, VB, VC, VE, TY, ↓reduceIte, Nat.reduceEqDiff, Nat.reduceAdd, Nat.reduceMul, Nat.reduceSub, Nat.reduceLeDiff, List.length_cons, List.length_nil, List.length_append, List.append_assoc, List.take_succ_cons, List.take_zero, List.drop_succ_cons, List.drop_zero, List.set_cons_zero, List.set_cons_succ, true_or, or_true, and_self, Bool.false_eq_true, Nat.le_refl, Option.bind_some, Option.map_some, Option.getD_some, Option.isSome_some, List.map_cons, List.map_nil, List.cons_append, List.nil_append, List.append_nil, List.getElem?_cons_zero, List.getElem?_cons_succ, eq_self, Int.reduceLT, Int.reduceLE, Int.reduceNeg, Int.reduceEq, pl, rl.isRow.len]
    refine loop_rule (fun n e h4 => ∃ (i : Nat) (D : List ByteArray) (w : Value), e 4 = v ∧ e 16 = v ∧ e 17 = .int .i64 l.length ∧ e 18 = .int .i64 i ∧ e 5 = w ∧ openP l D (l.drop i) = openP l [] l ∧ D.length ≤ i ∧ i ≤ l.length ∧ n = l.length - i ∧ Sep h h4 [ownA 9 D w, ownA 26 l v]) ?_ l.length _ _ ⟨0, [], _, rfl, rfl, rfl, rfl, rfl, by rw [List.drop_zero], by simp, Nat.zero_le _, rfl, (Sep.keep (L := [_]) s).nilA _⟩
    rintro n e h4 ⟨i, D, w, e4, e16, e17, e18, e5, hD, hDl, hi, rfl, s⟩
    simp (disch := omega) only [VW, VY, VZ, VA, VB, VC, VE, TY, ↓reduceIte, Nat.reduceEqDiff, Nat.reduceAdd, Nat.reduceMul, Nat.reduceSub, Nat.reduceLeDiff, List.length_cons, List.length_nil, List.length_append, List.append_assoc, List.take_succ_cons, List.take_zero, List.drop_succ_cons, List.drop_zero, List.set_cons_zero, List.set_cons_succ, true_or, or_true, and_self, Bool.false_eq_true, Nat.le_refl, Option.bind_some, Option.map_some, Option.getD_some, Option.isSome_some, List.map_cons, List.map_nil, List.cons_append, List.nil_append, List.append_nil, List.getElem?_cons_zero, List.getElem?_cons_succ, eq_self, Int.reduceLT, Int.reduceLE, Int.reduceNeg, Int.reduceEq, e17, e18]
    have rl := (s.pull 1 rfl).row
    by_cases hlt : i < l.length
    · obtain ⟨x, hx⟩ := get_some hlt
      have c1 : (i : Int) < (l.length : Int) := by omega
      have hxm := hmk x (List.mem_of_getElem? hx)
      have hxp := markM_path hxm
      obtain ⟨cs, x3, x4⟩ := Row.at rl hx
      obtain ⟨rfl, f1, f2⟩ := here_Mk x4
      rw [Mk.sz] at x3
      rw [drop_cons hx] at hD
      simp only [openP] at hD
      have sb := s.newBlk [.string x.path, .int .i64 x.kind] 26 true
      have g := sb.rd
      simp (disch := omega) only [VW, VY, VZ, VA, VB, VC, VE, TY, ↓reduceIte, Nat.reduceEqDiff, Nat.reduceAdd, Nat.reduceMul, Nat.reduceSub, Nat.reduceLeDiff, List.length_cons, List.length_nil, List.length_append, List.append_assoc, List.take_succ_cons, List.take_zero, List.drop_succ_cons, List.drop_zero, List.set_cons_zero, List.set_cons_succ, true_or, or_true, and_self, Bool.false_eq_true, Nat.le_refl, Option.bind_some, Option.map_some, Option.getD_some, Option.isSome_some, List.map_cons, List.map_nil, List.cons_append, List.nil_append, List.append_nil, List.getElem?_cons_zero, List.getElem?_cons_succ, eq_self, Int.reduceLT, Int.reduceLE, Int.reduceNeg, Int.reduceEq, c1, e4, e16, e18, rl.isRow.ix, x3, g]
      refine .inl ⟨by kernel_rfl, ?_⟩; refine jrLast_c (sb.pull 2 rfl).row fun h5 E5 => ?_
      have sb := sb.mono E5
      simp (disch := omega) only [VW, VY, VZ, VA, VB, VC, VE, TY, ↓reduceIte, Nat.reduceEqDiff, Nat.reduceAdd, Nat.reduceMul, Nat.reduceSub, Nat.reduceLeDiff, List.length_cons, List.length_nil, List.length_append, List.append_assoc, List.take_succ_cons, List.take_zero, List.drop_succ_cons, List.drop_zero, List.set_cons_zero, List.set_cons_succ, true_or, or_true, and_self, Bool.false_eq_true, Nat.le_refl, Option.bind_some, Option.map_some, Option.getD_some, Option.isSome_some, List.map_cons, List.map_nil, List.cons_append, List.nil_append, List.append_nil, List.getElem?_cons_zero, List.getElem?_cons_succ, eq_self, Int.reduceLT, Int.reduceLE, Int.reduceNeg, Int.reduceEq, e4, rl.isRow.len]
      refine loop_rule (fun n e h5 => ∃ (k : Nat), e 4 = v ∧ e 16 = v ∧ e 17 = .int .i64 l.length ∧ e 18 = .int .i64 i ∧ e 27 = v ∧ e 28 = .int .i64 l.length ∧ e 29 = .int .i64 k ∧ e 7 = .pointer (some ⟨h4.length, 0, none⟩) ∧ e 5 = w ∧ e 8 = .bool (decide (lastK l x.path = 3) && !(l.take k).any (badS l x)) ∧ k ≤ l.length ∧ n = l.length - k ∧ Sep h h5 [ownA 9 D w, ownA 26 l v, blkA h4.length [.string x.path, .int .i64 x.kind] 26]) ?_ l.length _ _ ⟨0, e4, e16, e17, e18, rfl, rfl, rfl, rfl, e5, by simp [upd], Nat.zero_le _, rfl, (sb.pull 1 rfl).pull 2 rfl |> fun t => Sep.keep (L := [_, _, _]) ((t.pull 1 rfl))⟩
      rintro n e h5 ⟨k, e4, e16, e17, e18, e27, e28, e29, e7, e5, e8, hk, rfl, s⟩
      have rl := (s.pull 1 rfl).row
      simp (disch := omega) only [VW, VY, VZ, VA, VB, VC, VE, TY, ↓reduceIte, Nat.reduceEqDiff, Nat.reduceAdd, Nat.reduceMul, Nat.reduceSub, Nat.reduceLeDiff, List.length_cons, List.length_nil, List.length_append, List.append_assoc, List.take_succ_cons, List.take_zero, List.drop_succ_cons, List.drop_zero, List.set_cons_zero, List.set_cons_succ, true_or, or_true, and_self, Bool.false_eq_true, Nat.le_refl, Option.bind_some, Option.map_some, Option.getD_some, Option.isSome_some, List.map_cons, List.map_nil, List.cons_append, List.nil_append, List.append_nil, List.getElem?_cons_zero, List.getElem?_cons_succ, eq_self, Int.reduceLT, Int.reduceLE, Int.reduceNeg, Int.reduceEq, e28, e29]
      by_cases hlt2 : k < l.length
      · obtain ⟨y, hy⟩ := get_some hlt2
        have c2 : (k : Int) < (l.length : Int) := by omega
        have hym := hmk y (List.mem_of_getElem? hy)
        have hyp := markM_path hym
        obtain ⟨cs, y3, y4⟩ := Row.at rl hy
        obtain ⟨rfl, g1, g2⟩ := here_Mk y4
        rw [Mk.sz] at y3
        have hat := any_take (badS l x) hy
        have sb := s.newBlk [.string y.path, .int .i64 y.kind] 26 true
        have g := sb.rd
        have gx := (sb.pull 3 rfl).rd
        have next : badS l x y = false → ∀ h6, Ext (h5 ++ [some ⟨[.string y.path, .int .i64 y.kind], 26, false, true⟩]) h6 → ∃ m, m < l.length - k ∧ ∃ (k' : Nat), Value.int .i64 ((k : Int) + 1) = Value.int .i64 (k' : Int) ∧ Value.bool (decide (lastK l x.path = 3) && !(l.take k).any (badS l x)) = Value.bool (decide (lastK l x.path = 3) && !(l.take k').any (badS l x)) ∧ k' ≤ l.length ∧ m = l.length - k' ∧ Sep h h6 [ownA 9 D w, ownA 26 l v, blkA h4.length [.string x.path, .int .i64 x.kind] 26] := by
          intro hh h6 E6
          rw [hh, Bool.or_false] at hat
          exact ⟨_, by omega, k + 1, by simp, by rw [hat], by omega, rfl, (sb.mono E6).tail⟩
        unfold badS at next
        simp (disch := omega) only [VW, VY, VZ, VA, VB, VC, VE, TY, ↓reduceIte, Nat.reduceEqDiff, Nat.reduceAdd, Nat.reduceMul, Nat.reduceSub, Nat.reduceLeDiff, List.length_cons, List.length_nil, List.length_append, List.append_assoc, List.take_succ_cons, List.take_zero, List.drop_succ_cons, List.drop_zero, List.set_cons_zero, List.set_cons_succ, true_or, or_true, and_self, Bool.false_eq_true, Nat.le_refl, Option.bind_some, Option.map_some, Option.getD_some, Option.isSome_some, List.map_cons, List.map_nil, List.cons_append, List.nil_append, List.append_nil, List.getElem?_cons_zero, List.getElem?_cons_succ, eq_self, Int.reduceLT, Int.reduceLE, Int.reduceNeg, Int.reduceEq, c2, e27, e29, e7, rl.isRow.ix, y3, g, gx]
        by_cases cp : y.path = x.path
        · have cp' := decide_eq_true cp
          have nx := next (by rw [decide_eq_false (not_not_intro cp), Bool.false_and, Bool.false_and]) _ (.refl _)
          simp (disch := omega) only [VW, VY, VZ, VA, VB, VC, VE, TY, ↓reduceIte, Nat.reduceEqDiff, Nat.reduceAdd, Nat.reduceMul, Nat.reduceSub, Nat.reduceLeDiff, List.length_cons, List.length_nil, List.length_append, List.append_assoc, List.take_succ_cons, List.take_zero, List.drop_succ_cons, List.drop_zero, List.set_cons_zero, List.set_cons_succ, true_or, or_true, and_self, Bool.false_eq_true, Nat.le_refl, Option.bind_some, Option.map_some, Option.getD_some, Option.isSome_some, List.map_cons, List.map_nil, List.cons_append, List.nil_append, List.append_nil, List.getElem?_cons_zero, List.getElem?_cons_succ, eq_self, Int.reduceLT, Int.reduceLE, Int.reduceNeg, Int.reduceEq, cp', e4, e5, e7, e8, e16, e17, e18, e27, e28, e29, wrap_in]
          exact nx
        · have cp' := decide_eq_false cp
          rw [decide_eq_true (show y.path ≠ x.path from cp), Bool.true_and] at next
          simp (disch := omega) only [VW, VY, VZ, VA, VB, VC, VE, TY, ↓reduceIte, Nat.reduceEqDiff, Nat.reduceAdd, Nat.reduceMul, Nat.reduceSub, Nat.reduceLeDiff, List.length_cons, List.length_nil, List.length_append, List.append_assoc, List.take_succ_cons, List.take_zero, List.drop_succ_cons, List.drop_zero, List.set_cons_zero, List.set_cons_succ, true_or, or_true, and_self, Bool.false_eq_true, Nat.le_refl, Option.bind_some, Option.map_some, Option.getD_some, Option.isSome_some, List.map_cons, List.map_nil, List.cons_append, List.nil_append, List.append_nil, List.getElem?_cons_zero, List.getElem?_cons_succ, eq_self, Int.reduceLT, Int.reduceLE, Int.reduceNeg, Int.reduceEq, cp', e7, g, gx]
          refine .inl ⟨by kernel_rfl, ?_⟩; refine jrIn_c (by omega) (by omega) ?_
          cases hin : inS x.path y.path with
          | false =>
            have nx := next (by rw [hin, Bool.false_and]) _ (.refl _)
            simp (disch := omega) only [VW, VY, VZ, VA, VB, VC, VE, TY, ↓reduceIte, Nat.reduceEqDiff, Nat.reduceAdd, Nat.reduceMul, Nat.reduceSub, Nat.reduceLeDiff, List.length_cons, List.length_nil, List.length_append, List.append_assoc, List.take_succ_cons, List.take_zero, List.drop_succ_cons, List.drop_zero, List.set_cons_zero, List.set_cons_succ, true_or, or_true, and_self, Bool.false_eq_true, Nat.le_refl, Option.bind_some, Option.map_some, Option.getD_some, Option.isSome_some, List.map_cons, List.map_nil, List.cons_append, List.nil_append, List.append_nil, List.getElem?_cons_zero, List.getElem?_cons_succ, eq_self, Int.reduceLT, Int.reduceLE, Int.reduceNeg, Int.reduceEq, e4, e5, e7, e8, e16, e17, e18, e27, e28, e29, wrap_in]
            exact nx
          | true =>
            rw [hin, Bool.true_and] at next
            simp (disch := omega) only [VW, VY, VZ, VA, VB, VC, VE, TY, ↓reduceIte, Nat.reduceEqDiff, Nat.reduceAdd, Nat.reduceMul, Nat.reduceSub, Nat.reduceLeDiff, List.length_cons, List.length_nil, List.length_append, List.append_assoc, List.take_succ_cons, List.take_zero, List.drop_succ_cons, List.drop_zero, List.set_cons_zero, List.set_cons_succ, true_or, or_true, and_self, Bool.false_eq_true, Nat.le_refl, Option.bind_some, Option.map_some, Option.getD_some, Option.isSome_some, List.map_cons, List.map_nil, List.cons_append, List.nil_append, List.append_nil, List.getElem?_cons_zero, List.getElem?_cons_succ, eq_self, Int.reduceLT, Int.reduceLE, Int.reduceNeg, Int.reduceEq, e4, g]
            refine .inl ⟨by kernel_rfl, ?_⟩; refine jrLast_c (sb.pull 2 rfl).row fun h6 E6 => ?_
            by_cases c3 : lastK l y.path = 3
            · have c3' := decide_eq_true c3
              have nx := next (decide_eq_false (not_not_intro c3)) _ E6
              simp (disch := omega) only [VW, VY, VZ, VA, VB, VC, VE, TY, ↓reduceIte, Nat.reduceEqDiff, Nat.reduceAdd, Nat.reduceMul, Nat.reduceSub, Nat.reduceLeDiff, List.length_cons, List.length_nil, List.length_append, List.append_assoc, List.take_succ_cons, List.take_zero, List.drop_succ_cons, List.drop_zero, List.set_cons_zero, List.set_cons_succ, true_or, or_true, and_self, Bool.false_eq_true, Nat.le_refl, Option.bind_some, Option.map_some, Option.getD_some, Option.isSome_some, List.map_cons, List.map_nil, List.cons_append, List.nil_append, List.append_nil, List.getElem?_cons_zero, List.getElem?_cons_succ, eq_self, Int.reduceLT, Int.reduceLE, Int.reduceNeg, Int.reduceEq, c3', e4, e5, e7, e8, e16, e17, e18, e27, e28, e29, wrap_in]
              exact nx
            · have c3' := decide_eq_false c3
              have hb : badS l x y = true := by unfold badS; rw [decide_eq_true (show y.path ≠ x.path from cp), hin, decide_eq_true (show lastK l y.path ≠ 3 from c3)]; rfl
              rw [hb, Bool.or_true] at hat
              simp (disch := omega) only [VW, VY, VZ, VA, VB, VC, VE, TY, ↓reduceIte, Nat.reduceEqDiff, Nat.reduceAdd, Nat.reduceMul, Nat.reduceSub, Nat.reduceLeDiff, List.length_cons, List.length_nil, List.length_append, List.append_assoc, List.take_succ_cons, List.take_zero, List.drop_succ_cons, List.drop_zero, List.set_cons_zero, List.set_cons_succ, true_or, or_true, and_self, Bool.false_eq_true, Nat.le_refl, Option.bind_some, Option.map_some, Option.getD_some, Option.isSome_some, List.map_cons, List.map_nil, List.cons_append, List.nil_append, List.append_nil, List.getElem?_cons_zero, List.getElem?_cons_succ, eq_self, Int.reduceLT, Int.reduceLE, Int.reduceNeg, Int.reduceEq, c3', e4, e5, e7, e16, e17, e18, e27, e28, e29, wrap_in]
              exact ⟨_, by omega, k + 1, by simp, by rw [hat]; simp, by omega, rfl, (sb.mono E6).tail⟩
      · obtain rfl : k = l.length := by omega
        have c2 : ¬ (l.length : Int) < (l.length : Int) := by omega
        rw [List.take_length] at e8
        have gx := (s.pull 2 rfl).rd
        have ho : (decide (lastK l x.path = 3) && !l.any (badS l x)) = openS l x := rfl
        rw [ho] at e8
        cases hop : openS l x with
        | true =>
          rw [hop] at e8
          rw [hop, if_pos rfl] at hD
          have hpl := putS_len x.path D
          simp (disch := omega) only [VW, VY, VZ, VA, VB, VC, VE, TY, ↓reduceIte, Nat.reduceEqDiff, Nat.reduceAdd, Nat.reduceMul, Nat.reduceSub, Nat.reduceLeDiff, List.length_cons, List.length_nil, List.length_append, List.append_assoc, List.take_succ_cons, List.take_zero, List.drop_succ_cons, List.drop_zero, List.set_cons_zero, List.set_cons_succ, true_or, or_true, and_self, Bool.false_eq_true, Nat.le_refl, Option.bind_some, Option.map_some, Option.getD_some, Option.isSome_some, List.map_cons, List.map_nil, List.cons_append, List.nil_append, List.append_nil, List.getElem?_cons_zero, List.getElem?_cons_succ, eq_self, Int.reduceLT, Int.reduceLE, Int.reduceNeg, Int.reduceEq, c2, e5, e7, e8, gx]
          refine .inl ⟨by kernel_rfl, ?_⟩; refine jrPut_c s.row (by omega) (by omega) (fun heq => ?_) (fun w6 h6 s6 => ?_)
          · rw [heq] at hD
            simp (disch := omega) only [VW, VY, VZ, VA, VB, VC, VE, TY, ↓reduceIte, Nat.reduceEqDiff, Nat.reduceAdd, Nat.reduceMul, Nat.reduceSub, Nat.reduceLeDiff, List.length_cons, List.length_nil, List.length_append, List.append_assoc, List.take_succ_cons, List.take_zero, List.drop_succ_cons, List.drop_zero, List.set_cons_zero, List.set_cons_succ, true_or, or_true, and_self, Bool.false_eq_true, Nat.le_refl, Option.bind_some, Option.map_some, Option.getD_some, Option.isSome_some, List.map_cons, List.map_nil, List.cons_append, List.nil_append, List.append_nil, List.getElem?_cons_zero, List.getElem?_cons_succ, eq_self, Int.reduceLT, Int.reduceLE, Int.reduceNeg, Int.reduceEq, e4, e16, e17, e18, wrap_in]
            exact ⟨_, by omega, i + 1, D, _, by simp, rfl, hD, by omega, by omega, rfl, Sep.keep (L := [_, _]) s⟩
          · have s := s.tail.add s6
            simp (disch := omega) only [VW, VY, VZ, VA, VB, VC, VE, TY, ↓reduceIte, Nat.reduceEqDiff, Nat.reduceAdd, Nat.reduceMul, Nat.reduceSub, Nat.reduceLeDiff, List.length_cons, List.length_nil, List.length_append, List.append_assoc, List.take_succ_cons, List.take_zero, List.drop_succ_cons, List.drop_zero, List.set_cons_zero, List.set_cons_succ, true_or, or_true, and_self, Bool.false_eq_true, Nat.le_refl, Option.bind_some, Option.map_some, Option.getD_some, Option.isSome_some, List.map_cons, List.map_nil, List.cons_append, List.nil_append, List.append_nil, List.getElem?_cons_zero, List.getElem?_cons_succ, eq_self, Int.reduceLT, Int.reduceLE, Int.reduceNeg, Int.reduceEq, e4, e16, e17, e18, wrap_in]
            exact ⟨_, by omega, i + 1, _, _, by simp, rfl, hD, by omega, by omega, rfl, Sep.keep (L := [_, _]) s⟩
        | false =>
          rw [hop] at e8
          rw [hop, if_neg (by decide)] at hD
          simp (disch := omega) only [VW, VY, VZ, VA, VB, VC, VE, TY, ↓reduceIte, Nat.reduceEqDiff, Nat.reduceAdd, Nat.reduceMul, Nat.reduceSub, Nat.reduceLeDiff, List.length_cons, List.length_nil, List.length_append, List.append_assoc, List.take_succ_cons, List.take_zero, List.drop_succ_cons, List.drop_zero, List.set_cons_zero, List.set_cons_succ, true_or, or_true, and_self, Bool.false_eq_true, Nat.le_refl, Option.bind_some, Option.map_some, Option.getD_some, Option.isSome_some, List.map_cons, List.map_nil, List.cons_append, List.nil_append, List.append_nil, List.getElem?_cons_zero, List.getElem?_cons_succ, eq_self, Int.reduceLT, Int.reduceLE, Int.reduceNeg, Int.reduceEq, c2, e4, e5, e8, e16, e17, e18, wrap_in]
          exact ⟨_, by omega, i + 1, D, w, by simp, rfl, hD, by omega, by omega, rfl, Sep.keep (L := [_, _]) s⟩
    · obtain rfl : i = l.length := by omega
      have c1 : ¬ (l.length : Int) < (l.length : Int) := by omega
      rw [List.drop_length] at hD
      simp only [openP] at hD
      subst hD
      have pl := row_plain s.row.isRow
      simp (disch := omega) only [VW, VY, VZ, VA, VB, VC, VE, TY, ↓reduceIte, Nat.reduceEqDiff, Nat.reduceAdd, Nat.reduceMul, Nat.reduceSub, Nat.reduceLeDiff, List.length_cons, List.length_nil, List.length_append, List.append_assoc, List.take_succ_cons, List.take_zero, List.drop_succ_cons, List.drop_zero, List.set_cons_zero, List.set_cons_succ, true_or, or_true, and_self, Bool.false_eq_true, Nat.le_refl, Option.bind_some, Option.map_some, Option.getD_some, Option.isSome_some, List.map_cons, List.map_nil, List.cons_append, List.nil_append, List.append_nil, List.getElem?_cons_zero, List.getElem?_cons_succ, eq_self, Int.reduceLT, Int.reduceLE, Int.reduceNeg, Int.reduceEq, c1, e5, pl]
      exact hQ _ _ s.toRep.head
theorem open_cnt (j : Jn) : cntL (openM j).1 ≤ 1000000000 := by
  have hc : ∀ l : List ByteArray, cntL l = l.length := by
    intro l
    unfold cntL
    induction l with
    | nil => rfl
    | cons x l ih =>
      have : Mrk.ecnt x = 1 := rfl
      simp only [List.map_cons, List.sum_cons, List.length_cons, ih, this]; omega
  rw [hc]
  unfold openM
  cases h : marksJ j with
  | none => simp
  | some l =>
    have := marksJ_len h
    simp only []
    rw [sortO_len]
    have h2 := openF_len (lastsL l) (lastsL l)
    have h3 := lastsL_len l
    omega
end Go.Proofs

/- Contracts of functions, facts of types, or the plain law behind one statement (own work): JD. Conditions: those told in each theorem. -/
import Derived.Test.YtkapgaajomaheaaGreatDoorJC
set_option linter.all false
set_option linter.unusedSimpArgs false
set_option linter.unusedVariables false
set_option maxRecDepth 4000
namespace Go.Proofs
open Go Go.V
theorem vr_slice0 {ι : List V.Place} {v u : Value} (h : VR ι v u) (hr : IsRow v 0) : ∃ p c, u = .slice p 0 c := by
  have hf := h.flat_inv (by rcases hr with ⟨rfl, _⟩ | ⟨b, off, cap, rfl, _⟩ <;> trivial)
  cases hf with
  | base hb =>
    rcases hr with ⟨rfl, _⟩ | ⟨b, off, cap, rfl, _⟩
    · cases hb; exact ⟨_, _, rfl⟩
    · generalize hv : Value.slice (some ⟨b, off, none⟩) 0 cap = v at hb
      cases hb <;> first | (cases hv; done) | skip
      · simp only [Value.slice.injEq] at hv
        rw [← hv.2.1]
        exact ⟨_, _, rfl⟩
      · exact ⟨_, _, rfl⟩
  | func => rcases hr with ⟨hv, _⟩ | ⟨b, off, cap, hv, _⟩ <;> cases hv
theorem map_enc (l : List ByteArray) : (l.map (·.data.toList)).map encStr = l.map fun x => .string x := by
  rw [List.map_map]; rfl
theorem map_dec (l : List BL) : l.map encStr = (l.map fun x => (⟨x.toArray⟩ : ByteArray)).map fun x => .string x := by
  rw [List.map_map]; rfl
theorem sortO_len (l : List ByteArray) : (sortO l).length = l.length := by
  unfold sortO
  rw [List.length_map, (List.mergeSort_perm _ _).length_eq, List.length_map]
theorem sortO_mem {l : List ByteArray} {x : ByteArray} (h : x ∈ sortO l) : x ∈ l := by
  unfold sortO at h
  obtain ⟨y, hy, rfl⟩ := List.mem_map.1 h
  rw [(List.mergeSort_perm _ _).mem_iff] at hy
  obtain ⟨z, hz, rfl⟩ := List.mem_map.1 hy
  exact hz
theorem sortS_c {l : List ByteArray} {el : TypeId} {v : Value} {a h : Heap} {L : List Asr} {Q : Value → Heap → Prop} (s : Sep a h (ownA el l v :: L)) (hn : l.length ≤ 1000000) (hz : ∀ x ∈ l, x.size ≤ 9223372036854775807)
    (hQ : ∀ h', Sep a h' (ownA el (sortO l) v :: L) → Q (.tuple #[]) h') : CallsV Tryz.prog 37 [v] h Q := by
  by_cases h0 : 0 < l.length
  · obtain ⟨b, off, cap, h', rfl, hle, hc, hw, s2⟩ := s.putStrs (l' := sortO l) h0 (sortO_len l) (fun x hx => hz x (sortO_mem hx))
    refine CallsV.strRow (ss := l.map (·.data.toList)) (ss' := (l.map (·.data.toList)).mergeSort fun x y => decide (x ≤ y)) (rv := fun _ _ => .tuple #[]) (by simp) (by rw [(List.mergeSort_perm _ _).length_eq]; simp) h0 hle (by rw [map_enc]; exact hc) (by rw [map_dec]; exact hw) ?_ (fun ι p hp => .tup .nil) (hQ _ s2)
    intro w blk o c _ hb hcc hH
    have := Tryz.slices_Sort_string blk o c (l.map (·.data.toList)) w hH hb (by rw [List.length_map]; omega)
    rw [List.length_map] at this
    exact this
  · obtain rfl : l = [] := by cases l with
      | nil => rfl
      | cons x l => simp at h0
    have hs : sortO [] = [] := by have := sortO_len []; exact List.eq_nil_of_length_eq_zero this
    rw [hs] at hQ
    intro B0 ι w us r hu
    cases hu with
    | cons h1 h2 =>
      cases h2
      obtain ⟨p, c, rfl⟩ := vr_slice0 h1 s.row.isRow
      refine (Tryz.slices_Sort_string_none p c w).mono ?_
      rintro e w' ⟨rfl, rfl⟩
      exact ⟨_, _, h, ι, rfl, hQ _ s, .tup .nil, r, List.prefix_rfl, Go.RowKit.Below.refl _ _⟩
theorem compact_le (zs : List BL) : (Lib.compact zs).length ≤ zs.length := by
  unfold Lib.compact Lib.compactUpTo
  rw [List.length_map]
  exact Nat.le_trans (List.length_filter_le _ _) (by simp)
/-- Compact, of what is sorted. -/
def compO (l : List ByteArray) : List ByteArray := (Lib.compact (l.map (·.data.toList))).map fun x => ⟨x.toArray⟩
theorem sortC_eq (l : List ByteArray) : sortC l = compO (sortO l) := by
  unfold sortC compO sortO
  rw [List.map_map]
  have : ((fun (x : ByteArray) => x.data.toList) ∘ fun (x : BL) => (⟨x.toArray⟩ : ByteArray)) = id := by funext x; simp
  rw [this, List.map_id]
theorem compact_mem {zs : List BL} {x : BL} (h : x ∈ Lib.compact zs) : x ∈ zs := by
  unfold Lib.compact Lib.compactUpTo at h
  obtain ⟨j, hj, rfl⟩ := List.mem_map.1 h
  have hj := List.mem_range.1 (List.mem_filter.1 hj).1
  rw [getElem!_pos _ _ (by simpa using hj)]
  simp
theorem compactS_c {l : List ByteArray} {el : TypeId} {v : Value} {a h : Heap} {L : List Asr} {Q : Value → Heap → Prop} (s : Sep a h (ownA el l v :: L)) (hn : l.length ≤ 1000000) (hz : ∀ x ∈ l, x.size ≤ 9223372036854775807)
    (hQ : ∀ w h', Sep a h' (ownA el (compO l) w :: L) → Q w h') : CallsV Tryz.prog 41 [v] h Q := by
  by_cases h0 : 0 < l.length
  · have hcl := compact_le (l.map (·.data.toList))
    rw [List.length_map] at hcl
    have hm : ∀ x ∈ compO l ++ List.replicate (l.length - (compO l).length) (⟨#[]⟩ : ByteArray), x.size ≤ 9223372036854775807 := by
      intro x hx
      rcases List.mem_append.1 hx with hx | hx
      · unfold compO at hx
        obtain ⟨y, hy, rfl⟩ := List.mem_map.1 hx
        obtain ⟨z, hz', rfl⟩ := List.mem_map.1 (compact_mem hy)
        exact hz z hz'
      · rw [List.eq_of_mem_replicate hx]; decide
    have hlen : (compO l).length = (Lib.compact (l.map (·.data.toList))).length := List.length_map _
    obtain ⟨b, off, cap, h', rfl, hle, hc, hw, s2⟩ := s.putStrs (l' := compO l ++ List.replicate (l.length - (compO l).length) ⟨#[]⟩) h0 (by rw [List.length_append, List.length_replicate]; omega) hm
    have s3 := s2.cut (lo := 0) (m := (compO l).length) (Nat.zero_le _) (by simp)
    rw [List.take_left' rfl, List.drop_zero] at s3
    have hcut : cutV (.slice (some ⟨b, off, none⟩) l.length cap) (Rep.sz ByteArray) 0 (compO l).length = .slice (some ⟨b, off, none⟩) (compO l).length cap := by simp [cutV]
    rw [hcut] at s3
    refine CallsV.strRow (ss := l.map (·.data.toList)) (ss' := Lib.compact (l.map (·.data.toList)) ++ List.replicate (l.length - (compO l).length) []) (rv := fun a c => .slice a (compO l).length c) (by simp) (by rw [List.length_append, List.length_replicate]; omega) h0 hle (by rw [map_enc]; exact hc) ?_ ?_ (fun ι p hp => .one (.flat (.base (.slice hp (by omega))))) (hQ _ _ s3)
    · rw [← hw, map_dec]
      congr 1
      rw [List.map_append, List.map_replicate]
      rfl
    · intro w blk o c _ hb hcc hH
      have := Tryz.slices_Compact_string blk o c (l.map (·.data.toList)) w hH (by rw [List.length_map]; omega) (by rw [List.length_map]; exact hcc)
      rw [List.length_map] at this
      refine this.mono ?_
      rintro e w' ⟨rfl, q, rfl⟩
      refine ⟨by rw [hlen], q, #[], ?_⟩
      rw [Sort.grow_empty, hlen]
  · obtain rfl : l = [] := by cases l with
      | nil => rfl
      | cons x l => simp at h0
    have hs : compO [] = [] := rfl
    rw [hs] at hQ
    intro B0 ι w us r hu
    cases hu with
    | cons h1 h2 =>
      cases h2
      have h1' := h1
      obtain ⟨p, c, rfl⟩ := vr_slice0 h1 s.row.isRow
      refine (Tryz.slices_Compact_string_empty p c w).mono ?_
      rintro e w' ⟨rfl, rfl⟩
      exact ⟨_, _, h, ι, rfl, hQ _ _ s, h1', r, List.prefix_rfl, Go.RowKit.Below.refl _ _⟩
/-! ### Contradictions -/
def contrF (l r : List Mk) : List ByteArray := (r.filter fun m => decide (m.kind = 2) && l.any fun n => decide (n.kind = 1) && inS m.path n.path).map (·.path)
def contrM (j : Jn) : List ByteArray × Bool := match marksJ j with
  | some l => (sortC (contrL l), true)
  | none => ([], false)
theorem contr1_c {m n : Mk} {cs : List Value} {b : Nat} {h : Heap} {Q : Value → Heap → Prop} (hm : Here h n cs) (hn : At h b 0 m) (z1 : m.path.size ≤ 1000000000) (z2 : n.path.size ≤ 1000000000) (hQ : ∀ h', Ext h h' → Q (.bool (decide (n.kind = 1) && inS m.path n.path)) h') :
    CallsV Tryz.prog 40 [.agg cs.toArray, .pointer (some ⟨b, 0, none⟩)] h Q := by
  obtain ⟨rfl, f1, f2⟩ := here_Mk hm
  refine CallsV.start Tryz.func40 rfl (by rw [Tryz.results40]) (by kernel_rfl) (by rw [Tryz.ntmps40]; simp) ?_
  have s := Sep.blk1 h [.string n.path, .int .i64 n.kind] 26 true
  have g := s.rd
  obtain ⟨x1, _⟩ := at_Mk (hn.ext s.ext)
  simp (disch := omega) only [VW, VY, VZ, VA, VB, VC, VE, TY, ↓reduceIte, Nat.reduceEqDiff, Nat.reduceAdd, Nat.reduceMul, Nat.reduceSub, Nat.reduceLeDiff, List.length_cons, List.length_nil, List.length_append, List.append_assoc, List.take_succ_cons, List.take_zero, List.drop_succ_cons, List.drop_zero, List.set_cons_zero, List.set_cons_succ, true_or, or_true, and_self, Bool.false_eq_true, Nat.le_refl, Option.bind_some, Option.map_some, Option.getD_some, Option.isSome_some, List.map_cons, List.map_nil, List.cons_append, List.nil_append, List.append_nil, List.getElem?_cons_zero, List.getElem?_cons_succ, eq_self, Int.reduceLT, Int.reduceLE, Int.reduceNeg, Int.reduceEq, g]
  by_cases c : n.kind = 1
  · rw [decide_eq_true c, Bool.true_and] at hQ
    have c' := decide_eq_true c
    simp (disch := omega) only [VW, VY, VZ, VA, VB, VC, VE, TY, ↓reduceIte, Nat.reduceEqDiff, Nat.reduceAdd, Nat.reduceMul, Nat.reduceSub, Nat.reduceLeDiff, List.length_cons, List.length_nil, List.length_append, List.append_assoc, List.take_succ_cons, List.take_zero, List.drop_succ_cons, List.drop_zero, List.set_cons_zero, List.set_cons_succ, true_or, or_true, and_self, Bool.false_eq_true, Nat.le_refl, Option.bind_some, Option.map_some, Option.getD_some, Option.isSome_some, List.map_cons, List.map_nil, List.cons_append, List.nil_append, List.append_nil, List.getElem?_cons_zero, List.getElem?_cons_succ, eq_self, Int.reduceLT, Int.reduceLE, Int.reduceNeg, Int.reduceEq, c', g, x1]
    refine .inl ⟨by kernel_rfl, ?_⟩; refine hasPrefix_c z1 z2 ?_
    simp (disch := omega) only [VW, VY, VZ, VA, VB, VC, VE, TY, ↓reduceIte, Nat.reduceEqDiff, Nat.reduceAdd, Nat.reduceMul, Nat.reduceSub, Nat.reduceLeDiff, List.length_cons, List.length_nil, List.length_append, List.append_assoc, List.take_succ_cons, List.take_zero, List.drop_succ_cons, List.drop_zero, List.set_cons_zero, List.set_cons_succ, true_or, or_true, and_self, Bool.false_eq_true, Nat.le_refl, Option.bind_some, Option.map_some, Option.getD_some, Option.isSome_some, List.map_cons, List.map_nil, List.cons_append, List.nil_append, List.append_nil, List.getElem?_cons_zero, List.getElem?_cons_succ, eq_self, Int.reduceLT, Int.reduceLE, Int.reduceNeg, Int.reduceEq]
    exact hQ _ s.ext
  · rw [decide_eq_false c, Bool.false_and] at hQ
    simp (disch := omega) only [VW, VY, VZ, VA, VB, VC, VE, TY, ↓reduceIte, Nat.reduceEqDiff, Nat.reduceAdd, Nat.reduceMul, Nat.reduceSub, Nat.reduceLeDiff, List.length_cons, List.length_nil, List.length_append, List.append_assoc, List.take_succ_cons, List.take_zero, List.drop_succ_cons, List.drop_zero, List.set_cons_zero, List.set_cons_succ, true_or, or_true, and_self, Bool.false_eq_true, Nat.le_refl, Option.bind_some, Option.map_some, Option.getD_some, Option.isSome_some, List.map_cons, List.map_nil, List.cons_append, List.nil_append, List.append_nil, List.getElem?_cons_zero, List.getElem?_cons_succ, eq_self, Int.reduceLT, Int.reduceLE, Int.reduceNeg, Int.reduceEq, c]
    exact hQ _ s.ext
theorem contrF_take {l r : List Mk} {i : Nat} {x : Mk} (h : r[i]? = some x) : contrF l (r.take (i + 1)) = contrF l (r.take i) ++ (if (decide (x.kind = 2) && l.any fun n => decide (n.kind = 1) && inS x.path n.path) = true then [x.path] else []) := by
  unfold contrF
  rw [List.take_add_one, h, List.filter_append, List.map_append]
  congr 1
  simp only [Option.toList_some, List.filter_cons, List.filter_nil]
  split <;> rfl
theorem contrF_len (l r : List Mk) : (contrF l r).length ≤ r.length := by
  unfold contrF; rw [List.length_map]; exact List.length_filter_le _ _
theorem contrF_mem {l r : List Mk} {x : ByteArray} (h : x ∈ contrF l r) : ∃ m ∈ r, x = m.path := by
  unfold contrF at h
  obtain ⟨m, hm, rfl⟩ := List.mem_map.1 h
  exact ⟨m, (List.mem_filter.1 hm).1, rfl⟩
theorem Contradictions_i {j : Jn} {cs : List Value} {h : Heap} {Q : Value → Heap → Prop} (hx : Here h j cs) (n : Siz.siz j ≤ 1000000)
    (hQ : ∀ w h', Sep h h' [repA (α := List ByteArray) (contrM j).1 [w]] → Q (.tuple #[w, .bool (contrM j).2]) h') : CallsV Tryz.prog 13 [.agg cs.toArray] h Q := by
  obtain ⟨rfl, f1, f2⟩ := here_Jn hx
  obtain ⟨z1, z2⟩ := siz_Jn n
  refine CallsV.start Tryz.func13 rfl (by rw [Tryz.results13]) (by kernel_rfl) (by rw [Tryz.ntmps13]; simp) ?_
  have s := Sep.blk1 h [.string j.safe, .string j.pending] 24 true
  unfold contrM at hQ
  simp (disch := omega) only [VW, VY, VZ, VA, VB, VC, VE, TY, ↓reduceIte, Nat.reduceEqDiff, Nat.reduceAdd, Nat.reduceMul, Nat.reduceSub, Nat.reduceLeDiff, List.length_cons, List.length_nil, List.length_append, List.append_assoc, List.take_succ_cons, List.take_zero, List.drop_succ_cons, List.drop_zero, List.set_cons_zero, List.set_cons_succ, true_or, or_true, and_self, Bool.false_eq_true, Nat.le_refl, Option.bind_some, Option.map_some, Option.getD_some, Option.isSome_some, List.map_cons, List.map_nil, List.cons_append, List.nil_append, List.append_nil, List.getElem?_cons_zero, List.getElem?_cons_succ, eq_self, Int.reduceLT, Int.reduceLE, Int.reduceNeg, Int.reduceEq]
  refine .inl ⟨by kernel_rfl, ?_⟩; refine marksOf_c z1 z2 (fun l v h' e s2 => ?_) (fun e h' E => ?_)
  · have hn := marksJ_len e
    have hmk := marks_in e
    rw [e] at hQ
    dsimp only at hQ
    have s := s.add s2
    have rl := s2.row
    simp (disch := omega) only [VW, VY, VZ, VA, VB, VC, VE, TY, ↓reduceIte, Nat.reduceEqDiff, Nat.reduceAdd, Nat.reduceMul, Nat.reduceSub, Nat.reduceLeDiff, List.length_cons, List.length_nil, List.length_append, List.append_assoc, List.take_succ_cons, List.take_zero, List.drop_succ_cons, List.drop_zero, List.set_cons_zero, List.set_cons_succ, true_or, or_true, and_self, Bool.false_eq_true, Nat.le_refl, Option.bind_some, Option.map_some, Option.getD_some, Option.isSome_some, List.map_cons, List.map_nil, List.cons_append, List.nil_append, List.append_nil, List.getElem?_cons_zero, List.getElem?_cons_succ, eq_self, Int.reduceLT, Int.reduceLE, Int.reduceNeg, Int.reduceEq, rl.isRow.len]
    refine loop_rule (fun n e h4 => ∃ (i : Nat) (w : Value), e 4 = v ∧ e 16 = v ∧ e 17 = .int .i64 l.length ∧ e 18 = .int .i64 i ∧ e 6 = w ∧ i ≤ l.length ∧ n = l.length - i ∧ Sep h h4 [ownA 9 (contrF l (l.take i)) w, ownA 26 l v]) ?_ l.length _ _ ⟨0, _, rfl, rfl, rfl, rfl, rfl, Nat.zero_le _, rfl, (Sep.keep (L := [_]) s).nilA _⟩
    rintro n e h4 ⟨i, w, e4, e16, e17, e18, e6, hi, rfl, s⟩
    simp (disch := omega) only [VW, VY, VZ, VA, VB, VC, VE, TY, ↓reduceIte, Nat.reduceEqDiff, Nat.reduceAdd, Nat.reduceMul, Nat.reduceSub, Nat.reduceLeDiff, List.length_cons, List.length_nil, List.length_append, List.append_assoc, List.take_succ_cons, List.take_zero, List.drop_succ_cons, List.drop_zero, List.set_cons_zero, List.set_cons_succ, true_or, or_true, and_self, Bool.false_eq_true, Nat.le_refl, Option.bind_some, Option.map_some, Option.getD_some, Option.isSome_some, List.map_cons, List.map_nil, List.cons_append, List.nil_append, List.append_nil, List.getElem?_cons_zero, List.getElem?_cons_succ, eq_self, Int.reduceLT, Int.reduceLE, Int.reduceNeg, Int.reduceEq, e17, e18]
    have rl := (s.pull 1 rfl).row
    by_cases hlt : i < l.length
    · obtain ⟨x, hx⟩ := get_some hlt
      have c1 : (i : Int) < (l.length : Int) := by omega
      have hxm := hmk x (List.mem_of_getElem? hx)
      have hxp := markM_path hxm
      obtain ⟨cs, x3, x4⟩ := Row.at rl hx
      obtain ⟨rfl, f1, f2⟩ := here_Mk x4
      rw [Mk.sz] at x3
      have hct := contrF_take (l := l) hx
      have hcl := contrF_len l (l.take i)
      rw [List.length_take] at hcl
      have sb := s.newBlk [.string x.path, .int .i64 x.kind] 26 true
      have g := sb.rd
      simp (disch := omega) only [VW, VY, VZ, VA, VB, VC, VE, TY, ↓reduceIte, Nat.reduceEqDiff, Nat.reduceAdd, Nat.reduceMul, Nat.reduceSub, Nat.reduceLeDiff, List.length_cons, List.length_nil, List.length_append, List.append_assoc, List.take_succ_cons, List.take_zero, List.drop_succ_cons, List.drop_zero, List.set_cons_zero, List.set_cons_succ, true_or, or_true, and_self, Bool.false_eq_true, Nat.le_refl, Option.bind_some, Option.map_some, Option.getD_some, Option.isSome_some, List.map_cons, List.map_nil, List.cons_append, List.nil_append, List.append_nil, List.getElem?_cons_zero, List.getElem?_cons_succ, eq_self, Int.reduceLT, Int.reduceLE, Int.reduceNeg, Int.reduceEq, c1, e16, e18, rl.isRow.ix, x3, g]
      by_cases ck : x.kind = 2
      · rw [decide_eq_true ck, Bool.true_and] at hct
        have rl2 := (sb.pull 2 rfl).row
        have ck' := decide_eq_true ck
        simp (disch := omega) only [VW, VY, VZ, VA, VB, VC, VE, TY, ↓reduceIte, Nat.reduceEqDiff, Nat.reduceAdd, Nat.reduceMul, Nat.reduceSub, Nat.reduceLeDiff, List.length_cons, List.length_nil, List.length_append, List.append_assoc, List.take_succ_cons, List.take_zero, List.drop_succ_cons, List.drop_zero, List.set_cons_zero, List.set_cons_succ, true_or, or_true, and_self, Bool.false_eq_true, Nat.le_refl, Option.bind_some, Option.map_some, Option.getD_some, Option.isSome_some, List.map_cons, List.map_nil, List.cons_append, List.nil_append, List.append_nil, List.getElem?_cons_zero, List.getElem?_cons_succ, eq_self, Int.reduceLT, Int.reduceLE, Int.reduceNeg, Int.reduceEq, ck', e4]
        refine ⟨rfl, ?_⟩
        refine .inl ⟨by kernel_rfl, ?_⟩; refine containsFuncMk_c (p := fun n => decide (n.kind = 1) && inS x.path n.path) rl2 (fun m cs h' K hm E hm2 hK => ?_) fun h5 E5 => ?_
        · refine .inl ⟨by kernel_rfl, ?_⟩
          have sb' := sb.mono E
          have hmp := markM_path (hmk m hm)
          exact contr1_c hm2 (sb'.ptr (mk_Mk f1 f2)) (by omega) (by omega) hK
        · have sb := sb.mono E5
          have g := sb.rd
          cases hany : l.any (fun n => decide (n.kind = 1) && inS x.path n.path) with
          | true =>
            rw [hany, if_pos rfl] at hct
            have sb := sb.tail.rep0 (rep_str (x := x.path) (by omega))
            simp (disch := omega) only [VW, VY, VZ, VA, VB, VC, VE, TY, ↓reduceIte, Nat.reduceEqDiff, Nat.reduceAdd, Nat.reduceMul, Nat.reduceSub, Nat.reduceLeDiff, List.length_cons, List.length_nil, List.length_append, List.append_assoc, List.take_succ_cons, List.take_zero, List.drop_succ_cons, List.drop_zero, List.set_cons_zero, List.set_cons_succ, true_or, or_true, and_self, Bool.false_eq_true, Nat.le_refl, Option.bind_some, Option.map_some, Option.getD_some, Option.isSome_some, List.map_cons, List.map_nil, List.cons_append, List.nil_append, List.append_nil, List.getElem?_cons_zero, List.getElem?_cons_succ, eq_self, Int.reduceLT, Int.reduceLE, Int.reduceNeg, Int.reduceEq, e6, g]
            refine sep_append (Sep.swap sb) rfl rfl te35 tk9 rfl (by decide) (by simp only []; omega) fun v5 h5 sp => ?_
            rw [← hct] at sp
            simp (disch := omega) only [VW, VY, VZ, VA, VB, VC, VE, TY, ↓reduceIte, Nat.reduceEqDiff, Nat.reduceAdd, Nat.reduceMul, Nat.reduceSub, Nat.reduceLeDiff, List.length_cons, List.length_nil, List.length_append, List.append_assoc, List.take_succ_cons, List.take_zero, List.drop_succ_cons, List.drop_zero, List.set_cons_zero, List.set_cons_succ, true_or, or_true, and_self, Bool.false_eq_true, Nat.le_refl, Option.bind_some, Option.map_some, Option.getD_some, Option.isSome_some, List.map_cons, List.map_nil, List.cons_append, List.nil_append, List.append_nil, List.getElem?_cons_zero, List.getElem?_cons_succ, eq_self, Int.reduceLT, Int.reduceLE, Int.reduceNeg, Int.reduceEq, e4, e16, e17, e18, wrap_in]
            exact ⟨_, by omega, i + 1, v5, by simp, rfl, by omega, rfl, sp⟩
          | false =>
            rw [hany, if_neg (by decide), List.append_nil] at hct
            rw [← hct] at sb
            simp (disch := omega) only [VW, VY, VZ, VA, VB, VC, VE, TY, ↓reduceIte, Nat.reduceEqDiff, Nat.reduceAdd, Nat.reduceMul, Nat.reduceSub, Nat.reduceLeDiff, List.length_cons, List.length_nil, List.length_append, List.append_assoc, List.take_succ_cons, List.take_zero, List.drop_succ_cons, List.drop_zero, List.set_cons_zero, List.set_cons_succ, true_or, or_true, and_self, Bool.false_eq_true, Nat.le_refl, Option.bind_some, Option.map_some, Option.getD_some, Option.isSome_some, List.map_cons, List.map_nil, List.cons_append, List.nil_append, List.append_nil, List.getElem?_cons_zero, List.getElem?_cons_succ, eq_self, Int.reduceLT, Int.reduceLE, Int.reduceNeg, Int.reduceEq, e4, e6, e16, e17, e18, wrap_in]
            exact ⟨_, by omega, i + 1, w, by simp, rfl, by omega, rfl, sb.tail⟩
      · rw [decide_eq_false ck, Bool.false_and, if_neg (by decide), List.append_nil] at hct
        rw [← hct] at sb
        simp (disch := omega) only [VW, VY, VZ, VA, VB, VC, VE, TY, ↓reduceIte, Nat.reduceEqDiff, Nat.reduceAdd, Nat.reduceMul, Nat.reduceSub, Nat.reduceLeDiff, List.length_cons, List.length_nil, List.length_append, List.append_assoc, List.take_succ_cons, List.take_zero, List.drop_succ_cons, List.drop_zero, List.set_cons_zero, List.set_cons_succ, true_or, or_true, and_self, Bool.false_eq_true, Nat.le_refl, Option.bind_some, Option.map_some, Option.getD_some, Option.isSome_some, List.map_cons, List.map_nil, List.cons_append, List.nil_append, List.append_nil, List.getElem?_cons_zero, List.getElem?_cons_succ, eq_self, Int.reduceLT, Int.reduceLE, Int.reduceNeg, Int.reduceEq, ck, e4, e6, e16, e17, e18, wrap_in]
        exact ⟨_, by omega, i + 1, w, by simp, rfl, by omega, rfl, sb.tail⟩
    · obtain rfl : i = l.length := by omega
      have c1 : ¬ (l.length : Int) < (l.length : Int) := by omega
      rw [List.take_length] at s
      have hcl := contrF_len l l
      have hzz : ∀ x ∈ contrF l l, x.size ≤ 9223372036854775807 := by
        intro x hx
        obtain ⟨m, hm, rfl⟩ := contrF_mem hx
        have := markM_path (hmk m hm)
        omega
      simp (disch := omega) only [VW, VY, VZ, VA, VB, VC, VE, TY, ↓reduceIte, Nat.reduceEqDiff, Nat.reduceAdd, Nat.reduceMul, Nat.reduceSub, Nat.reduceLeDiff, List.length_cons, List.length_nil, List.length_append, List.append_assoc, List.take_succ_cons, List.take_zero, List.drop_succ_cons, List.drop_zero, List.set_cons_zero, List.set_cons_succ, true_or, or_true, and_self, Bool.false_eq_true, Nat.le_refl, Option.bind_some, Option.map_some, Option.getD_some, Option.isSome_some, List.map_cons, List.map_nil, List.cons_append, List.nil_append, List.append_nil, List.getElem?_cons_zero, List.getElem?_cons_succ, eq_self, Int.reduceLT, Int.reduceLE, Int.reduceNeg, Int.reduceEq, c1, e6]
      refine .inl ⟨by kernel_rfl, ?_⟩; refine sortS_c s (by omega) hzz fun h5 s => ?_
      simp (disch := omega) only [VW, VY, VZ, VA, VB, VC, VE, TY, ↓reduceIte, Nat.reduceEqDiff, Nat.reduceAdd, Nat.reduceMul, Nat.reduceSub, Nat.reduceLeDiff, List.length_cons, List.length_nil, List.length_append, List.append_assoc, List.take_succ_cons, List.take_zero, List.drop_succ_cons, List.drop_zero, List.set_cons_zero, List.set_cons_succ, true_or, or_true, and_self, Bool.false_eq_true, Nat.le_refl, Option.bind_some, Option.map_some, Option.getD_some, Option.isSome_some, List.map_cons, List.map_nil, List.cons_append, List.nil_append, List.append_nil, List.getElem?_cons_zero, List.getElem?_cons_succ, eq_self, Int.reduceLT, Int.reduceLE, Int.reduceNeg, Int.reduceEq, e6]
      refine .inl ⟨by kernel_rfl, ?_⟩; refine compactS_c s (by rw [sortO_len]; omega) (fun x hx => hzz x (sortO_mem hx)) fun w6 h6 s => ?_
      rw [← sortC_eq] at s
      have pl := row_plain s.row.isRow
      simp (disch := omega) only [VW, VY, VZ, VA, VB, VC, VE, TY, ↓reduceIte, Nat.reduceEqDiff, Nat.reduceAdd, Nat.reduceMul, Nat.reduceSub, Nat.reduceLeDiff, List.length_cons, List.length_nil, List.length_append, List.append_assoc, List.take_succ_cons, List.take_zero, List.drop_succ_cons, List.drop_zero, List.set_cons_zero, List.set_cons_succ, true_or, or_true, and_self, Bool.false_eq_true, Nat.le_refl, Option.bind_some, Option.map_some, Option.getD_some, Option.isSome_some, List.map_cons, List.map_nil, List.cons_append, List.nil_append, List.append_nil, List.getElem?_cons_zero, List.getElem?_cons_succ, eq_self, Int.reduceLT, Int.reduceLE, Int.reduceNeg, Int.reduceEq, pl]
      exact hQ _ _ s.toRep.head
  · rw [e] at hQ
    have s := s.mono E
    simp (disch := omega) only [VW, VY, VZ, VA, VB, VC, VE, TY, ↓reduceIte, Nat.reduceEqDiff, Nat.reduceAdd, Nat.reduceMul, Nat.reduceSub, Nat.reduceLeDiff, List.length_cons, List.length_nil, List.length_append, List.append_assoc, List.take_succ_cons, List.take_zero, List.drop_succ_cons, List.drop_zero, List.set_cons_zero, List.set_cons_succ, true_or, or_true, and_self, Bool.false_eq_true, Nat.le_refl, Option.bind_some, Option.map_some, Option.getD_some, Option.isSome_some, List.map_cons, List.map_nil, List.cons_append, List.nil_append, List.append_nil, List.getElem?_cons_zero, List.getElem?_cons_succ, eq_self, Int.reduceLT, Int.reduceLE, Int.reduceNeg, Int.reduceEq]
    exact hQ _ _ (((Sep.nil s.ext).nilA 9).toRep)
end Go.Proofs

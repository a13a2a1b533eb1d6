/- Contracts of functions, facts of types, or the plain law behind one statement (own work): EM. Conditions: those told in each theorem. -/
import Derived.Test.YtajkecjbdoineaaEJ
import Derived.Test.YtajkecjbdoineaaPG
set_option linter.all false
set_option linter.unusedSimpArgs false
set_option linter.unusedVariables false
set_option maxRecDepth 4000
namespace Go.Proofs
open Go Go.V
open Nat (reduceEqDiff reduceAdd reduceMul reduceSub reduceLeDiff)
open Int (reduceLT reduceLE reduceNeg reduceEq)
/- Chains: what both codes compute; the walks. -/
noncomputable def chainA : Nat → List Int → List Int → Option (List (List Int))
  | 0, _, _ => some []
  | n + 1, a, b => if b.length ≤ 1 then some [] else match remL a b with
    | none => none
    | some r => (chainA n b (negL r)).map (negL r :: ·)
noncomputable def chainM (p : List Int) : Option (List (List Int)) := (freeL p).bind fun f => if 1 < f.length then (chainA 12 f (partL (dvL f))).map fun L => f :: partL (dvL f) :: L else some [f]
/-- What is still to come of a chain whose last two are a and b. -/
def CRest (R : Option (List (List Int))) (out : List (List Int)) (n : Nat) (a b : List Int) : Prop := (chainA n a b).map (out ++ ·) = R
theorem CRest.stop {R : Option (List (List Int))} {out : List (List Int)} {n : Nat} {a b : List Int} (h : CRest R out n a b) (hb : b.length ≤ 1) : R = some out := by
  unfold CRest at h
  cases n with
  | zero => simp only [chainA, Option.map_some, List.append_nil] at h; exact h.symm
  | succ n =>
    simp only [chainA] at h
    rw [if_pos hb] at h
    simp only [Option.map_some, List.append_nil] at h
    exact h.symm
theorem CRest.none {R : Option (List (List Int))} {out : List (List Int)} {n : Nat} {a b : List Int} (h : CRest R out (n + 1) a b) (hb : 1 < b.length) (hc : remL a b = none) : R = none := by
  unfold CRest at h
  simp only [chainA] at h
  rw [if_neg (by omega), hc] at h
  exact h.symm
theorem CRest.next {R : Option (List (List Int))} {out : List (List Int)} {n : Nat} {a b r : List Int} (h : CRest R out (n + 1) a b) (hb : 1 < b.length) (hc : remL a b = some r) : CRest R (out ++ [negL r]) n b (negL r) := by
  unfold CRest at *
  simp only [chainA] at h
  rw [if_neg (by omega), hc] at h
  have h : ((chainA n b (negL r)).map (negL r :: ·)).map (out ++ ·) = R := h
  rw [← h]
  cases chainA n b (negL r) with
  | none => rfl
  | some l => simp
theorem Sm.neg {B : Int} {l : List Int} (h : Sm B l) : Sm B (negL l) := ⟨by rw [neg_len]; exact h.len, fun x hx => by
  unfold negL at hx
  obtain ⟨y, hy, rfl⟩ := List.mem_map.1 hx
  have := h.bd y hy
  omega⟩
/-- A list of a chain. -/
structure Cel (l : List Int) : Prop where
  sm : Sm 1000000000 l
  ldd : Ldd l
  ne : l ≠ []
theorem cel_next {a b r : List Int} (ha : Cel a) (hb : Cel b) (hc : Cop a b) (b1 : 1 < b.length) (h : remL a b = some r) : Cel (negL r) ∧ Cop b (negL r) ∧ (negL r).length < b.length := by
  obtain ⟨h1, h2, h3, _⟩ := rem_fact ha.ldd hb.ldd hb.ne h
  have r0 := hc.ne hb.ldd b1 h3
  refine ⟨⟨(rem_sm ha.sm hb.sm ha.ldd hb.ldd hb.ne h).neg, neg_ldd.2 h1, ?_⟩, hc.next h3, by rw [neg_len]; exact h2⟩
  rw [← List.length_pos_iff, neg_len]
  exact List.length_pos_iff.2 r0
/-- A chain that has been begun: its last two. -/
structure Chn (out : List (List Int)) (a b : List Int) : Prop where
  all : ∀ l ∈ out, Cel l
  la : out[out.length - 2]? = some a
  lb : out[out.length - 1]? = some b
  two : 2 ≤ out.length
  cop : Cop a b
theorem Chn.next {out : List (List Int)} {a b r : List Int} (h : Chn out a b) (b1 : 1 < b.length) (hr : remL a b = some r) : Chn (out ++ [negL r]) b (negL r) ∧ (negL r).length < b.length := by
  have ha := h.all a (List.mem_of_getElem? h.la)
  have hb := h.all b (List.mem_of_getElem? h.lb)
  obtain ⟨c1, c2, c3⟩ := cel_next ha hb h.cop b1 hr
  have h2 := h.two
  refine ⟨⟨fun l hl => ?_, ?_, by simp, by rw [List.length_append, List.length_singleton]; omega, c2⟩, c3⟩
  · rcases List.mem_append.1 hl with hl | hl
    · exact h.all l hl
    · rw [List.mem_singleton] at hl; rw [hl]; exact c1
  · rw [List.length_append, List.length_singleton, List.getElem?_append_left (by omega), show out.length + 1 - 2 = out.length - 1 by omega]
    exact h.lb
theorem free_cel {P f : List Int} (hP : Top P) (h : InF P f) : Cel f := ⟨(h.sm hP).mono (by decide), h.ldd, h.ne hP⟩
theorem der_cel {P f : List Int} (hP : Top P) (h : InF P f) (h1 : 1 < f.length) : Cel (partL (dvL f)) := by
  have hs := (h.sm hP)
  refine ⟨(dv_sm9 hs).part, part_ldd (dv_ldd h.ldd), part_ne.2 ?_⟩
  rw [← List.length_pos_iff, dv_len]; omega
theorem chn_start {P p f : List Int} (hP : Top P) (hp : InF P p) (hf : freeL p = some f) (h1 : 1 < f.length) : Chn [f, partL (dvL f)] f (partL (dvL f)) := by
  obtain ⟨i1, i2⟩ := free_cop' hP hp hf
  refine ⟨fun l hl => ?_, rfl, rfl, by simp, i2⟩
  simp only [List.mem_cons, List.not_mem_nil, or_false] at hl
  rcases hl with rfl | rfl
  · exact free_cel hP i1
  · exact der_cel hP i1 h1
theorem chain_none {p : List Int} (h : freeL p = none) : chainM p = none := by unfold chainM; rw [h]; rfl
theorem chain_one {p f : List Int} (h : freeL p = some f) (h1 : ¬ 1 < f.length) : chainM p = some [f] := by
  unfold chainM; rw [h]
  show (if 1 < f.length then _ else _) = _
  rw [if_neg h1]
theorem chain_two {p f : List Int} (h : freeL p = some f) (h1 : 1 < f.length) : CRest (chainM p) [f, partL (dvL f)] 12 f (partL (dvL f)) := by
  unfold CRest chainM; rw [h]
  show _ = (if 1 < f.length then _ else _)
  rw [if_pos h1]
  rfl
/-- A chain on its way: its last list, and what is still to come. -/
structure StC (p : List Int) (out : List (List Int)) (b : List Int) : Prop where
  all : ∀ l ∈ out, Cel l
  lb : out[out.length - 1]? = some b
  one : 1 ≤ out.length
  le : out.length ≤ 14
  go : (b.length ≤ 1 ∧ chainM p = some out) ∨ ∃ a n, Chn out a b ∧ CRest (chainM p) out n a b ∧ b.length ≤ n ∧ out.length + n = 14
theorem StC.stop {p : List Int} {out : List (List Int)} {b : List Int} (h : StC p out b) (hb : b.length ≤ 1) : chainM p = some out := by
  rcases h.go with ⟨_, h⟩ | ⟨a, n, _, h, _⟩
  · exact h
  · exact h.stop hb
theorem StC.two {p : List Int} {out : List (List Int)} {b : List Int} (h : StC p out b) (hb : 1 < b.length) : ∃ a n, Chn out a b ∧ CRest (chainM p) out (n + 1) a b ∧ b.length ≤ n + 1 ∧ out.length + (n + 1) = 14 := by
  rcases h.go with ⟨h, _⟩ | ⟨a, n, h1, h2, h3, h4⟩
  · omega
  · obtain ⟨n, rfl⟩ : ∃ j, n = j + 1 := ⟨n - 1, by omega⟩
    exact ⟨a, n, h1, h2, h3, h4⟩
theorem StC.next {p : List Int} {out : List (List Int)} {a b r : List Int} {n : Nat} (h1 : Chn out a b) (h2 : CRest (chainM p) out (n + 1) a b) (h3 : b.length ≤ n + 1) (h4 : out.length + (n + 1) = 14) (hb : 1 < b.length) (hr : remL a b = some r) :
    StC p (out ++ [negL r]) (negL r) ∧ (negL r).length < b.length := by
  obtain ⟨c1, c2⟩ := h1.next hb hr
  refine ⟨⟨c1.all, c1.lb, by rw [List.length_append, List.length_singleton]; omega, by rw [List.length_append, List.length_singleton]; omega, .inr ⟨b, n, c1, h2.next hb hr, by omega, by rw [List.length_append, List.length_singleton]; omega⟩⟩, c2⟩
theorem stc_one {P p f : List Int} (hP : Top P) (hp : InF P p) (hf : freeL p = some f) (h1 : ¬ 1 < f.length) : StC p [f] f := by
  obtain ⟨i1, _⟩ := free_cop' hP hp hf
  refine ⟨fun l hl => ?_, rfl, by simp, by simp, .inl ⟨by omega, chain_one hf h1⟩⟩
  rw [List.mem_singleton] at hl; rw [hl]; exact free_cel hP i1
theorem stc_two {P p f : List Int} (hP : Top P) (hp : InF P p) (hf : freeL p = some f) (h1 : 1 < f.length) : StC p [f, partL (dvL f)] (partL (dvL f)) := by
  obtain ⟨i1, _⟩ := free_cop' hP hp hf
  have hc := chn_start hP hp hf h1
  refine ⟨hc.all, rfl, by simp, by simp, .inr ⟨f, 12, hc, chain_two hf h1, ?_, rfl⟩⟩
  rw [part_len, dv_len]
  have := i1.len hP
  omega
theorem Sep.blkOne {α : Type} [Rep α] {a h : Heap} {L : List Asr} {x : α} {c1 : List Value} {b : Nat} {ty : TypeId} (s : Sep a h (repA x c1 :: blkA b c1 ty :: L)) :
    Sep a h (ownA ty [x] (.slice (some ⟨b, 0, none⟩) 1 1) :: L) := by
  refine s.both.to fun fp ⟨f, g, e, h1, e2, ex, o⟩ hd => ?_
  have hc : Cells h [x] c1 [f] := Cells.one h1
  have hl := hc.length.1
  subst e; subst e2
  have hcells : (c1.drop 0).take ([x].length * Rep.sz α) = c1 := by rw [List.drop_zero, List.take_of_length_le (Nat.le_of_eq hl)]
  have hp : (b :: f).Nodup := by
    have := List.nodup_append.1 hd
    refine List.nodup_cons.2 ⟨fun hm => this.2.2 b hm b (by simp) rfl, this.1⟩
  refine ⟨b :: [f].flatten, Own.mk' (α := α) (l := [x]) (b := b) (off := 0) (cap := 1) (fps := [f]) (Nat.le_refl _) (show 1 ≤ 9223372036854775807 by decide) o rfl rfl (by simp only []; rw [hl]; simp) (by rw [hcells]; exact hc) (by simpa using hp), by simpa using hp, ?_⟩
  intro z hz
  simp only [List.flatten_cons, List.flatten_nil, List.append_nil, List.mem_cons] at hz ⊢
  rcases hz with rfl | hz
  · simp
  · simp [hz]
theorem sturmChain_c {P p : List Int} {v : Value} {h : Heap} {Q : Value → Heap → Prop} (r : Row h p v) (hP : Top P) (hp : InF P p)
    (hQ0 : chainM p = none → ∀ h', Ext h h' → Q (.tuple #[.slice none 0 0, .bool false]) h')
    (hQ : ∀ C v h', chainM p = some C → (∀ l ∈ C, Cel l) → C.length ≤ 14 → Row h' C v → Ext h h' → Q (.tuple #[v, .bool true]) h') : CallsV Try.prog 26 [v] h Q := by
  refine CallsV.start Try.func26 rfl (by rw [Try.results26]) (by kernel_rfl) (by rw [Try.ntmps26]; simp) ?_
  simp (disch := omega) only [WA, ↓reduceIte, reduceEqDiff, reduceAdd, reduceMul, reduceSub, reduceLeDiff, reduceLT, reduceLE, reduceNeg, reduceEq]
  refine .inl ⟨by kernel_rfl, ?_⟩; refine squarefreePart_c r hP hp fun v1 h1 s => ?_
  cases hf : freeL p with
  | none =>
    simp (disch := omega) only [WA, ↓reduceIte, reduceEqDiff, reduceAdd, reduceMul, reduceSub, reduceLeDiff, reduceLT, reduceLE, reduceNeg, reduceEq, Option.isSome_none]
    exact hQ0 (chain_none hf) _ s.ext
  | some f =>
    rw [hf] at s
    rw [Option.getD_some] at s
    obtain ⟨i1, i2⟩ := free_cop' hP hp hf
    have cf' := free_cel hP i1
    have rf := s.row
    have cu := rf.isRow.cells
    have E := s.ext
    have s1 := (s.toRep.newBlk [v1] 22 true)
    have s1 := Sep.blkOne s1.swap
    have rf1 := rf.mono (Ext.one h1 (some ⟨[v1], 22, false, true⟩))
    simp (disch := omega) only [WA, ↓reduceIte, reduceEqDiff, reduceAdd, reduceMul, reduceSub, reduceLeDiff, reduceLT, reduceLE, reduceNeg, reduceEq, Option.isSome_some, cu, rf1.isRow.len]
    generalize h1 ++ [some ⟨[v1], 22, false, true⟩] = H1 at s1 rf1 ⊢
    refine cond_join (fun e' h' => ∃ (out : List (List Int)) (b : List Int) (vo : Value), e' 6 = vo ∧ StC p out b ∧ Sep h h' [ownA 22 out vo]) (fun K' hK' => ?_) ?_
    · by_cases k : 1 < f.length
      · have k1 : (1 : Int) < (f.length : Int) := by omega
        simp (disch := omega) only [WA, ↓reduceIte, reduceEqDiff, reduceAdd, reduceMul, reduceSub, reduceLeDiff, reduceLT, reduceLE, reduceNeg, reduceEq, k1]
        refine .inl ⟨by kernel_rfl, ?_⟩; refine deriveSingle_c rf1 cf'.sm cf'.ldd fun v2 h2 t2 => ?_
        have s2 := s1.add t2
        simp (disch := omega) only [WA, ↓reduceIte, reduceEqDiff, reduceAdd, reduceMul, reduceSub, reduceLeDiff, reduceLT, reduceLE, reduceNeg, reduceEq]
        refine .inl ⟨by kernel_rfl, ?_⟩; refine divided_c t2.row ((dv_sm9 (i1.sm hP)).nin (by decide)) (by have := (dv_sm9 (i1.sm hP)).len; omega) fun v3 h3 t3 => ?_
        have s3 := s2.add t3
        have cu3 := t3.row.isRow.cells
        have s3 := s3.toRep.pull 2 rfl
        simp (disch := omega) only [WA, ↓reduceIte, reduceEqDiff, reduceAdd, reduceMul, reduceSub, reduceLeDiff, reduceLT, reduceLE, reduceNeg, reduceEq, cu3]
        refine sep_append (y := partL (dvL f)) s3 rfl rfl te23 tk22 rfl (by decide) (by simp only [List.length_singleton]; decide) fun v4 h4 s4 => ?_
        simp (disch := omega) only [WA, ↓reduceIte, reduceEqDiff, reduceAdd, reduceMul, reduceSub, reduceLeDiff, reduceLT, reduceLE, reduceNeg, reduceEq]
        exact hK' _ _ ⟨[f, partL (dvL f)], _, v4, rfl, stc_two hP hp hf k, s4.head⟩
      · have k1 : ¬ (1 : Int) < (f.length : Int) := by omega
        simp (disch := omega) only [WA, ↓reduceIte, reduceEqDiff, reduceAdd, reduceMul, reduceSub, reduceLeDiff, reduceLT, reduceLE, reduceNeg, reduceEq, k1]
        exact hK' _ _ ⟨[f], f, _, rfl, stc_one hP hp hf k, s1⟩
    clear s1 rf1 s rf cu
    rintro e h2 ⟨out, b, vo, e6, hst, s⟩
    simp (disch := omega) only [WA, ↓reduceIte, reduceEqDiff, reduceAdd, reduceMul, reduceSub, reduceLeDiff, reduceLT, reduceLE, reduceNeg, reduceEq, e6, s.row.isRow.len]
    refine loop_rule (fun m e h' => ∃ (out : List (List Int)) (b : List Int) (vo : Value), e 6 = vo ∧ e 7 = .int .i64 out.length ∧ m = b.length ∧ StC p out b ∧ Sep h h' [ownA 22 out vo]) ?_ b.length _ _ ⟨out, b, vo, e6, rfl, rfl, hst, s⟩
    clear s hst e6
    rintro m e h3 ⟨out, b, vo, e6, e7, rfl, hst, s⟩
    have ro := s.row
    have ho1 := hst.one
    have ho2 := hst.le
    obtain ⟨wb, Xb, rb⟩ := row_list ro hst.lb
    have k1 : (out.length : Int) - 1 = ((out.length - 1 : Nat) : Int) := by omega
    have q1 : ((out.length - 1 : Nat) : Int) < (out.length : Int) := by omega
    by_cases k : 1 < b.length
    · have kb : (1 : Int) < (b.length : Int) := by omega
      obtain ⟨a, n, h1', h2', h3', h4'⟩ := hst.two k
      have ho3 := h1'.two
      obtain ⟨wa, Xa, ra⟩ := row_list ro h1'.la
      have k2 : (out.length : Int) - 2 = ((out.length - 2 : Nat) : Int) := by omega
      have q2 : ((out.length - 2 : Nat) : Int) < (out.length : Int) := by omega
      have ca := h1'.all a (List.mem_of_getElem? h1'.la)
      have cb := h1'.all b (List.mem_of_getElem? h1'.lb)
      simp (disch := omega) only [WA, ↓reduceIte, reduceEqDiff, reduceAdd, reduceMul, reduceSub, reduceLeDiff, reduceLT, reduceLE, reduceNeg, reduceEq, e6, e7, k1, wrap_in, ro.isRow.ix, q1, Xb, rb.isRow.len, kb]
      refine draw_ord [0, 1, 2, 3, 4, 5, 6, 7, 8, 9, 10, 11, 12, 13, 14, 15] (by kernel_rfl) (by simp only [List.filterMap_cons, List.filterMap_nil, List.getElem?_cons_zero, List.getElem?_cons_succ]; rfl) ?_
      simp (disch := omega) only [WA, ↓reduceIte, reduceEqDiff, reduceAdd, reduceMul, reduceSub, reduceLeDiff, reduceLT, reduceLE, reduceNeg, reduceEq, e6, e7, k1, k2, wrap_in, ro.isRow.ix, q1, q2, Xa, Xb]
      refine .inl ⟨by kernel_rfl, ?_⟩; refine remainder_c ra rb ca.sm cb.sm ca.ldd cb.ldd cb.ne fun v4 h4 t4 => ?_
      have ro4 := ro.mono t4.ext
      have Xa4 := t4.ext.keepC Xa
      have Xb4 := t4.ext.keepC Xb
      have s := s.add t4
      cases hr : remL a b with
      | none =>
        simp (disch := omega) only [WA, ↓reduceIte, reduceEqDiff, reduceAdd, reduceMul, reduceSub, reduceLeDiff, reduceLT, reduceLE, reduceNeg, reduceEq, Option.isSome_none, Xa4, Xb4]
        exact hQ0 (h2'.none k hr) _ s.ext
      | some r =>
        obtain ⟨n1, n2⟩ := StC.next h1' h2' h3' h4' k hr
        rw [hr] at s
        rw [Option.getD_some] at s
        have sr := rem_sm ca.sm cb.sm ca.ldd cb.ldd cb.ne hr
        simp (disch := omega) only [WA, ↓reduceIte, reduceEqDiff, reduceAdd, reduceMul, reduceSub, reduceLeDiff, reduceLT, reduceLE, reduceNeg, reduceEq, Option.isSome_some, Xa4, Xb4, e6]
        refine .inl ⟨by kernel_rfl, ?_⟩; refine negated_c (s.pull 0 rfl).row (sr.nin (by decide)) (by have := sr.len; omega) fun v5 h5 t5 => ?_
        have s := s.add t5
        have cu := t5.row.isRow.cells
        have s := s.toRep.pull 2 rfl
        simp (disch := omega) only [WA, ↓reduceIte, reduceEqDiff, reduceAdd, reduceMul, reduceSub, reduceLeDiff, reduceLT, reduceLE, reduceNeg, reduceEq, cu]
        refine sep_append (y := negL r) s rfl rfl te23 tk22 rfl (by decide) (by simp only []; omega) fun v6 h6 s => ?_
        have w1 := wrap9 (x := (out.length : Int) + 1) (by omega)
        simp (disch := omega) only [WA, ↓reduceIte, reduceEqDiff, reduceAdd, reduceMul, reduceSub, reduceLeDiff, reduceLT, reduceLE, reduceNeg, reduceEq, e7, w1]
        exact ⟨_, n2, out ++ [negL r], negL r, v6, rfl, by simp, rfl, n1, s.head⟩
    · have kb : ¬ (1 : Int) < (b.length : Int) := by omega
      have pl := ro.isRow.plain
      simp (disch := omega) only [WA, ↓reduceIte, reduceEqDiff, reduceAdd, reduceMul, reduceSub, reduceLeDiff, reduceLT, reduceLE, reduceNeg, reduceEq, e6, e7, k1, wrap_in, ro.isRow.ix, q1, Xb, rb.isRow.len, kb, pl]
      exact hQ out vo _ (hst.stop (by omega)) hst.all ho2 ro s.ext
end Go.Proofs

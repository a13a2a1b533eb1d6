/- Contracts of functions, facts of types, or the plain law behind one statement (own work): Q4. Conditions: those told in each theorem. -/
import Derived.Test.YtiiolloielppeaaGreatDoorQ3
set_option linter.all false
set_option linter.unusedSimpArgs false
set_option linter.unusedVariables false
set_option maxRecDepth 4000
namespace Go.Proofs
open Go Go.V
/- What both parsers of work read (plain). -/
def idxN (w : List UInt8) : Option Nat :=
  if w = [111, 112, 101, 110] then some 0 else if w = [102, 114, 101, 101] then some 1 else if w = [104, 111, 108, 100, 115] then some 2 else if w = [107, 101, 112, 116] then some 3 else none
def putW (w : Wk) (k : Nat) (b : Bx) : Wk :=
  match k with
  | 0 => ⟨w.opened ++ [b], w.free, w.holds, w.kept, w.steps⟩
  | 1 => ⟨w.opened, w.free ++ [b], w.holds, w.kept, w.steps⟩
  | 2 => ⟨w.opened, w.free, w.holds ++ [b], w.kept, w.steps⟩
  | _ => ⟨w.opened, w.free, w.holds, w.kept ++ [b], w.steps⟩
def stepI (o : Option Wk) (line : List UInt8) : Option Wk :=
  match o, idxN (cutB line [32]).1, boxI (cutB line [32]).2 with
  | some w, some k, some b => some (putW w k b)
  | _, _, _ => none
theorem foldI_none (l : List (List UInt8)) : l.foldl stepI none = none := by
  induction l with
  | nil => rfl
  | cons x l ih => exact ih
def finM (s : List UInt8) (t : Int) (o : Option Wk) : Option Wk :=
  match o with
  | none => none
  | some w => if workM w t = true ∧ workL w = s then some w else none
def linesI (s : List UInt8) : List (List UInt8) := splitL 10 (Lib.trimSuffix s [10])
def startI (l : List (List UInt8)) : Wk := ⟨[], [], [], [], atoiN (cutB (l.headD []) [32]).2⟩
def workI (s : List UInt8) (t : Int) : Option Wk := finM s t ((linesI s).tail.foldl stepI (some (startI (linesI s))))
def nameS (line : List UInt8) : List UInt8 := (splitL 32 line).headD []
def stepS (o : Option Wk) (line : List UInt8) : Option Wk :=
  match o with
  | none => none
  | some w => if (nameS line).length + 2 ≤ line.length then
      (match boxI (line.drop ((nameS line).length + 1)), idxN (nameS line) with
       | some b, some k => some (putW w k b)
       | _, _ => none)
    else none
theorem foldS_none (l : List (List UInt8)) : l.foldl stepS none = none := by
  induction l with
  | nil => rfl
  | cons x l ih => exact ih
def startS (l : List (List UInt8)) : Wk := ⟨[], [], [], [], readM ((l.headD []).drop 6)⟩
def workSh (s : List UInt8) : Prop := plainM (bL s) = true ∧ 2 ≤ (splitL 10 s).length ∧ (splitL 10 s).length ≤ 162 ∧ 7 ≤ ((splitL 10 s).headD []).length
instance (s : List UInt8) : Decidable (workSh s) := by unfold workSh; infer_instance
def workS (s : List UInt8) (t : Int) : Option Wk := if workSh s then finM s t ((splitL 10 s).tail.dropLast.foldl stepS (some (startS (splitL 10 s)))) else none
def lineN (nm : List UInt8) (x : Bx) : List UInt8 := nm ++ (32 :: [] ++ boxL x)
theorem stepI_line {w : Wk} {nm : List UInt8} {k : Nat} {x : Bx} (h : (32 : UInt8) ∉ nm) (hk : idxN nm = some k) (hx : boxM x = true) : stepI (some w) (lineN nm x) = some (putW w k x) := by
  unfold stepI lineN
  rw [cut_at h, hk, boxI_own hx]
theorem boxL_ne {x : Bx} : boxL x ≠ [] := by unfold boxL; simp
theorem stepS_line {w : Wk} {nm : List UInt8} {k : Nat} {x : Bx} (h : (32 : UInt8) ∉ nm) (hk : idxN nm = some k) (hx : boxM x = true) : stepS (some w) (lineN nm x) = some (putW w k x) := by
  have hn : nameS (lineN nm x) = nm := by
    unfold nameS lineN
    rw [List.cons_append, List.nil_append, splitL_app _ h]; rfl
  have hl : (boxL x).length ≠ 0 := fun k => boxL_ne (List.eq_nil_of_length_eq_zero k)
  have hd : (lineN nm x).drop (nm.length + 1) = boxL x := by
    unfold lineN
    rw [show nm ++ (32 :: [] ++ boxL x) = (nm ++ [32]) ++ boxL x by simp, List.drop_left' (by simp)]
  unfold stepS
  simp only []
  rw [hn, hd, boxI_own hx, hk, if_pos]
  unfold lineN
  simp; omega
def putA (w : Wk) (k : Nat) (l : List Bx) : Wk :=
  match k with
  | 0 => ⟨w.opened ++ l, w.free, w.holds, w.kept, w.steps⟩
  | 1 => ⟨w.opened, w.free ++ l, w.holds, w.kept, w.steps⟩
  | 2 => ⟨w.opened, w.free, w.holds ++ l, w.kept, w.steps⟩
  | _ => ⟨w.opened, w.free, w.holds, w.kept ++ l, w.steps⟩
theorem putA_nil (w : Wk) (k : Nat) : putA w k [] = w := by unfold putA; split <;> simp
theorem putA_cons (w : Wk) (k : Nat) (x : Bx) (l : List Bx) : putA (putW w k x) k l = putA w k (x :: l) := by
  match k with
  | 0 => simp [putA, putW]
  | 1 => simp [putA, putW]
  | 2 => simp [putA, putW]
  | n + 3 => simp [putA, putW]
theorem fold_lines {F : Option Wk → List UInt8 → Option Wk} {nm : List UInt8} {k : Nat} (hF : ∀ w x, boxM x = true → F (some w) (lineN nm x) = some (putW w k x)) :
    ∀ (l : List Bx) (w : Wk), (∀ x ∈ l, boxM x = true) → (l.map (lineN nm)).foldl F (some w) = some (putA w k l)
  | [], w, _ => by rw [putA_nil]; rfl
  | x :: l, w, h => by
    rw [List.map_cons, List.foldl_cons, hF w x (h x (by simp)), fold_lines hF l _ (fun y hy => h y (by simp [hy])), putA_cons]
def linesR (w : Wk) : List (List UInt8) := (namesL.zip (lists w)).flatMap fun p => p.2.map (lineN p.1)
theorem linesR_eq (w : Wk) : linesR w = w.opened.map (lineN [111, 112, 101, 110]) ++ (w.free.map (lineN [102, 114, 101, 101]) ++ (w.holds.map (lineN [104, 111, 108, 100, 115]) ++ w.kept.map (lineN [107, 101, 112, 116]))) := by
  unfold linesR namesL lists
  simp
theorem fold_work {F : Option Wk → List UInt8 → Option Wk} {w : Wk} {t : Int} (hw : workM w t = true) (hF : ∀ nm k, (32 : UInt8) ∉ nm → idxN nm = some k → ∀ w x, boxM x = true → F (some w) (lineN nm x) = some (putW w k x)) :
    (linesR w).foldl F (some ⟨[], [], [], [], w.steps⟩) = some w := by
  have hb := work_box hw
  rw [linesR_eq, List.foldl_append, List.foldl_append, List.foldl_append,
    fold_lines (hF _ 0 (by decide) (by decide)) w.opened _ (hb _ (by simp [lists])).2,
    fold_lines (hF _ 1 (by decide) (by decide)) w.free _ (hb _ (by simp [lists])).2,
    fold_lines (hF _ 2 (by decide) (by decide)) w.holds _ (hb _ (by simp [lists])).2,
    fold_lines (hF _ 3 (by decide) (by decide)) w.kept _ (hb _ (by simp [lists])).2]
  simp [putA]
def line0 (w : Wk) : List UInt8 := [115, 116, 101, 112, 115] ++ (32 :: [] ++ Lib.itoa w.steps)
theorem workL_lines (w : Wk) : workL w = (line0 w :: linesR w).flatMap fun y => y ++ [10] := by
  unfold workL
  rw [List.flatMap_cons]
  congr 1
  unfold linesR
  rw [List.flatMap_assoc]
  congr 1
  funext p
  unfold listT
  rw [List.flatMap_map]
  congr 1
  funext x
  unfold lineT lineN; simp
theorem no10 (n : Int) : (10 : UInt8) ∉ Lib.itoa n := itoa_no (by decide) (by decide)
theorem boxL_no10 (x : Bx) : (10 : UInt8) ∉ boxL x := by
  rw [boxL_nums]
  intro h
  rcases List.mem_append.1 h with h | h
  · rcases List.mem_append.1 h with h | h
    · exact no10 _ h
    · simp at h
  · rw [List.mem_flatMap] at h
    obtain ⟨n, _, hn⟩ := h
    unfold spW at hn
    rcases List.mem_cons.1 hn with hn | hn
    · cases hn
    · exact no10 _ hn
theorem line0_no (w : Wk) : (10 : UInt8) ∉ line0 w := by
  unfold line0
  intro h
  rcases List.mem_append.1 h with h | h
  · revert h; decide
  · rcases List.mem_append.1 h with h | h
    · revert h; decide
    · exact no10 _ h
theorem lineN_no {nm : List UInt8} (hn : (10 : UInt8) ∉ nm) (x : Bx) : (10 : UInt8) ∉ lineN nm x := by
  unfold lineN
  intro h
  rcases List.mem_append.1 h with h | h
  · exact hn h
  · rcases List.mem_append.1 h with h | h
    · revert h; decide
    · exact boxL_no10 _ h
theorem linesR_no (w : Wk) : ∀ y ∈ linesR w, (10 : UInt8) ∉ y := by
  intro y hy
  unfold linesR at hy
  rw [List.mem_flatMap] at hy
  obtain ⟨p, hp, hy⟩ := hy
  rw [List.mem_map] at hy
  obtain ⟨x, _, rfl⟩ := hy
  refine lineN_no ?_ x
  have h2 : ∀ nm ∈ namesL, (10 : UInt8) ∉ nm := by decide
  exact h2 _ (List.of_mem_zip hp).1
theorem linesR_len {w : Wk} {t : Int} (hw : workM w t = true) : (linesR w).length ≤ 160 := by
  have hb := work_box hw
  have h1 := (hb w.opened (by simp [lists])).1
  have h2 := (hb w.free (by simp [lists])).1
  have h3 := (hb w.holds (by simp [lists])).1
  have h4 := (hb w.kept (by simp [lists])).1
  rw [linesR_eq]
  simp only [List.length_append, List.length_map]; omega
theorem workI_own {w : Wk} {t : Int} (hw : workM w t = true) : workI (workL w) t = some w := by
  have ws := work_steps hw
  have hl : linesI (workL w) = line0 w :: linesR w := by
    unfold linesI
    rw [workL_lines]
    exact split_lines' _ _ (line0_no w) (linesR_no w)
  have hs : startI (linesI (workL w)) = ⟨[], [], [], [], w.steps⟩ := by
    unfold startI
    rw [hl, List.headD_cons]
    unfold line0
    rw [cut_at (by decide)]
    simp only [atoiN_itoa (show w.steps.natAbs < 1000000000 by omega)]
  unfold workI
  rw [hs, hl, List.tail_cons, fold_work hw fun nm k h1 h2 w x hx => stepI_line h1 h2 hx]
  unfold finM
  simp only []
  simp [hw]
theorem workS_own {w : Wk} {t : Int} (hw : workM w t = true) : workS (workL w) t = some w := by
  have ws := work_steps hw
  have hl : splitL 10 (workL w) = (line0 w :: linesR w) ++ [[]] := by
    rw [workL_lines]
    exact split_lines _ (fun y hy => by
      rcases List.mem_cons.1 hy with rfl | hy
      · exact line0_no w
      · exact linesR_no w y hy)
  have hn : Lib.itoa w.steps ≠ [] := by
    unfold Lib.itoa; split
    · simp
    · exact dec_ne _
  have hs : startS (splitL 10 (workL w)) = ⟨[], [], [], [], w.steps⟩ := by
    unfold startS
    rw [hl, List.cons_append, List.headD_cons]
    unfold line0
    rw [show [115, 116, 101, 112, 115] ++ (32 :: [] ++ Lib.itoa w.steps) = [115, 116, 101, 112, 115, 32] ++ Lib.itoa w.steps by simp, show List.drop 6 ([115, 116, 101, 112, 115, 32] ++ Lib.itoa w.steps) = Lib.itoa w.steps from rfl, read_itoa ws.1 (by omega)]
  have hlen := linesR_len hw
  unfold workS
  rw [if_pos, hs, hl, List.cons_append, List.tail_cons, List.dropLast_concat, fold_work hw fun nm k h1 h2 w x hx => stepS_line h1 h2 hx]
  · unfold finM
    simp only []
    simp [hw]
  · refine ⟨work_plain hw, ?_, ?_, ?_⟩
    · rw [hl]; simp
    · rw [hl]; simp; omega
    · rw [hl, List.cons_append, List.headD_cons]
      unfold line0
      cases hi : Lib.itoa w.steps with
      | nil => exact absurd hi hn
      | cons a r => simp
theorem finM_some {s : List UInt8} {t : Int} {o : Option Wk} {w : Wk} (h : finM s t o = some w) : workM w t = true ∧ workL w = s := by
  unfold finM at h
  cases o with
  | none => cases h
  | some v =>
    simp only [] at h
    split at h
    · rename_i c; cases h; exact c
    · cases h
theorem workI_some {s : List UInt8} {t : Int} {w : Wk} (h : workI s t = some w) : workM w t = true ∧ workL w = s := finM_some h
theorem workS_some {s : List UInt8} {t : Int} {w : Wk} (h : workS s t = some w) : workM w t = true ∧ workL w = s := by
  unfold workS at h
  split at h
  · exact finM_some h
  · cases h
theorem workS_eq (s : List UInt8) (t : Int) : workS s t = workI s t := by
  cases hi : workI s t with
  | some x =>
    obtain ⟨h1, h2⟩ := workI_some hi
    rw [← h2]; exact workS_own h1
  | none =>
    cases hs : workS s t with
    | none => rfl
    | some x =>
      obtain ⟨h1, h2⟩ := workS_some hs
      rw [← h2, workI_own h1] at hi; cases hi
end Go.Proofs

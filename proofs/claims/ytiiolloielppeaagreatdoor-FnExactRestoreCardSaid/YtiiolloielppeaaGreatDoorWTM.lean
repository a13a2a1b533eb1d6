/- Contracts of functions, facts of types, or the plain law behind one statement (own work): WTM. Conditions: those told in each theorem. -/
import Derived.Test.YtiiolloielppeaaGreatDoorW1
import Derived.Test.YtiiolloielppeaaGreatDoorWTL
set_option linter.all false
set_option linter.unusedSimpArgs false
set_option linter.unusedVariables false
set_option maxRecDepth 4000
namespace Go.Proofs
open Go Go.V

/- The text of work, as letters. -/
def pairT (p : Int × Int) : List UInt8 := [32] ++ Lib.itoa p.1 ++ [32] ++ Lib.itoa p.2
def boxL (x : Bx) : List UInt8 := Lib.itoa x.k ++ [58] ++ (x.low.zip x.high).flatMap pairT
def lineT (nm : List UInt8) (x : Bx) : List UInt8 := nm ++ [32] ++ boxL x ++ [10]
def namesL : List (List UInt8) := [[111, 112, 101, 110], [102, 114, 101, 101], [104, 111, 108, 100, 115], [107, 101, 112, 116]]
def listT (p : List UInt8 × List Bx) : List UInt8 := p.2.flatMap (lineT p.1)
def stepsL (n : Int) : List UInt8 := [115, 116, 101, 112, 115, 32] ++ Lib.itoa n ++ [10]
def workL (w : Wk) : List UInt8 := stepsL w.steps ++ (namesL.zip (lists w)).flatMap listT
theorem box_small {x : Bx} (h : boxM x = true) : (0 ≤ x.k ∧ x.k ≤ 8) ∧ x.low.length ≤ 3 ∧ x.high.length = x.low.length ∧ ∀ p ∈ x.low.zip x.high, (-2048 ≤ p.1 ∧ p.1 ≤ 2048) ∧ (-2048 ≤ p.2 ∧ p.2 ≤ 2048) := by
  unfold boxM at h
  simp only [Bool.and_eq_true, decide_eq_true_eq] at h
  obtain ⟨⟨⟨h1, h2⟩, h3⟩, h4, _⟩ := h
  refine ⟨h1, by omega, h3, fun p hp => ?_⟩
  have := List.all_eq_true.1 h4 p hp
  have hm := mostM_le h1
  simp only [pairOk, decide_eq_true_eq] at this
  omega
theorem pairT_len {p : Int × Int} (h : (-2048 ≤ p.1 ∧ p.1 ≤ 2048) ∧ (-2048 ≤ p.2 ∧ p.2 ≤ 2048)) : (pairT p).length ≤ 12 := by
  unfold pairT
  have h1 := itoa_len (n := p.1) 4 (by decide) (by have : (10 : Nat) ^ 4 = 10000 := by decide
                                                   omega)
  have h2 := itoa_len (n := p.2) 4 (by decide) (by have : (10 : Nat) ^ 4 = 10000 := by decide
                                                   omega)
  simp only [List.length_append, List.length_cons, List.length_nil]; omega
theorem pairs_len {x : Bx} (h : boxM x = true) (i : Nat) : (((x.low.zip x.high).take i).flatMap pairT).length ≤ 36 := by
  obtain ⟨h1, h2, h3, h4⟩ := box_small h
  have := flatLen pairT 12 ((x.low.zip x.high).take i) fun p hp => pairT_len (h4 p (List.mem_of_mem_take hp))
  have hz : (x.low.zip x.high).length ≤ 3 := by rw [List.length_zip]; omega
  have : ((x.low.zip x.high).take i).length ≤ 3 := by rw [List.length_take]; omega
  omega
theorem boxK_len {x : Bx} (h : boxM x = true) : (Lib.itoa x.k).length ≤ 1 := by
  obtain ⟨h1, _⟩ := box_small h
  exact itoa_len0 1 (by decide) h1.1 (by simp; omega)
theorem boxL_len {x : Bx} (h : boxM x = true) : (boxL x).length ≤ 38 := by
  unfold boxL
  have h1 := boxK_len h
  have h2 := pairs_len h (x.low.zip x.high).length
  rw [List.take_length] at h2
  simp only [List.length_append, List.length_cons, List.length_nil]; omega
theorem lineT_len {x : Bx} {nm : List UInt8} (hn : nm.length ≤ 5) (h : boxM x = true) : (lineT nm x).length ≤ 45 := by
  unfold lineT
  have := boxL_len h
  simp only [List.length_append, List.length_cons, List.length_nil]; omega
theorem names_len : ∀ nm ∈ namesL, nm.length ≤ 5 := by decide
theorem work_box {w : Wk} {s : Int} (h : workM w s = true) : ∀ l ∈ lists w, l.length ≤ 40 ∧ ∀ x ∈ l, boxM x = true := by
  intro l hl
  unfold workM at h
  simp only [Bool.and_eq_true, List.all_eq_true] at h
  have := h.1 l hl
  simp only [listOk, Bool.and_eq_true, decide_eq_true_eq, List.all_eq_true] at this
  refine ⟨this.1, fun x hx => ?_⟩
  have := this.2 x hx
  simp only [boxOk, Bool.and_eq_true] at this
  exact this.1
theorem lines_len {nm : List UInt8} {l : List Bx} (hn : nm.length ≤ 5) (hb : ∀ x ∈ l, boxM x = true) (hl : l.length ≤ 40) (i : Nat) : ((l.take i).flatMap (lineT nm)).length ≤ 1800 := by
  have := flatLen (lineT nm) 45 (l.take i) fun x hx => lineT_len hn (hb x (List.mem_of_mem_take hx))
  have : (l.take i).length ≤ 40 := by rw [List.length_take]; omega
  omega
theorem lists_len {w : Wk} {s : Int} (h : workM w s = true) (j : Nat) : (((namesL.zip (lists w)).take j).flatMap listT).length ≤ 7200 := by
  have := flatLen listT 1800 ((namesL.zip (lists w)).take j) fun p hp => by
    have hm := List.of_mem_zip (List.mem_of_mem_take hp)
    have hb := work_box h p.2 hm.2
    have := lines_len (names_len p.1 hm.1) hb.2 hb.1 p.2.length
    rw [List.take_length] at this
    exact this
  have h4 : (namesL.zip (lists w)).length = 4 := rfl
  have : ((namesL.zip (lists w)).take j).length ≤ 4 := by rw [List.length_take]; omega
  omega
theorem work_steps {w : Wk} {s : Int} (h : workM w s = true) : 0 ≤ w.steps ∧ w.steps ≤ 10000 := by
  unfold workM at h
  simp only [Bool.and_eq_true, decide_eq_true_eq] at h
  exact h.2.2
theorem steps_len {n : Int} (h : 0 ≤ n ∧ n ≤ 10000) : (stepsL n).length ≤ 13 := by
  unfold stepsL
  have := itoa_len0 (n := n) 5 (by decide) h.1 (by have : (10 : Nat) ^ 5 = 100000 := by decide
                                                   omega)
  simp only [List.length_append, List.length_cons, List.length_nil]; omega
theorem workL_len {w : Wk} {s : Int} (h : workM w s = true) : (workL w).length ≤ 7300 := by
  unfold workL
  have h1 := lists_len h (namesL.zip (lists w)).length
  rw [List.take_length] at h1
  have h2 := steps_len (work_steps h)
  rw [List.length_append]; omega
theorem pairT_plain (p : Int × Int) : (pairT p).all plainB = true := by
  unfold pairT
  simp only [List.all_append, itoa_plain]; decide
theorem boxL_plain (x : Bx) : (boxL x).all plainB = true := by
  unfold boxL
  rw [List.all_append, List.all_append, itoa_plain, flatAll pairT plainB _ fun p _ => pairT_plain p]; decide
theorem lineT_plain {nm : List UInt8} (hn : nm.all plainB = true) (x : Bx) : (lineT nm x).all plainB = true := by
  unfold lineT
  rw [List.all_append, List.all_append, List.all_append, boxL_plain, hn]; decide
theorem names_plain : ∀ nm ∈ namesL, nm.all plainB = true := by decide
theorem workL_plain (w : Wk) : (workL w).all plainB = true := by
  unfold workL stepsL
  rw [List.all_append, List.all_append, List.all_append, itoa_plain, flatAll listT plainB]
  · decide
  · intro p hp
    unfold listT
    exact flatAll _ _ _ fun x _ => lineT_plain (names_plain p.1 (List.of_mem_zip hp).1) x
theorem work_plain {w : Wk} {s : Int} (h : workM w s = true) : plainM (bL (workL w)) = true := by
  unfold plainM
  have := workL_len h
  rw [bL_size, show (bL (workL w)).data.toList = workL w from rfl, workL_plain, decide_eq_true (by omega)]; rfl
end Go.Proofs

/- The layer V, part 15: the steps as equations, for the walk. -/
import Derived.Test.YtheliocfcjkbhaaDoorV14
set_option linter.all false
namespace Go.V
open Go Go.RowKit

/-! ### continuations, opened only where they are met -/
def SeqK (P : Program) [Laid P] (b : Code) (Q : VX → Env → Heap → Prop) : VX → Env → Heap → Prop := seqV (fun e h => wpV P b e h Q) Q
def ExitK (id : Nat) (Q : VX → Env → Heap → Prop) : VX → Env → Heap → Prop := exitV Q id
def OpsK (P : Program) [Laid P] (all : Array Oper) (os : List Oper) (d : Option Tmp) (e : Env) (K : Env → Heap → Prop) : Value → Heap → Prop := fun v h => opsV P all os (putV e d v) h K
def condK (P : Program) [Laid P] (v : Value) (a b : Code) (e : Env) (h : Heap) (Q : VX → Env → Heap → Prop) : Prop :=
  match v with | .bool true => wpV P a e h Q | .bool false => wpV P b e h Q | _ => False
def guardK (P : Program) [Laid P] (all : Array Oper) (g : Value) (want : Bool) (op : Op) (d : Option Tmp) (os : List Oper) (e : Env) (h : Heap) (K : Env → Heap → Prop) : Prop :=
  match g with
  | .bool b => if b = want then opV P op e h (OpsK P all os d e K) else opsV P all os (putV e d SK) h K
  | .float _ _ => opsV P all os (putV e d SK) h K
  | _ => False
def stK (o : Option Heap) (K : Value → Heap → Prop) : Prop := match o with | some h' => K UN h' | none => False
def binK (P : Program) (o : Option Value) (op : BinOp) (t : TypeId) (xo yo : Operand) (x y : Value) (K : Value → Heap → Prop) (h : Heap) : Prop :=
  match o with | some v => K v h | none => BinC P op t xo yo x y fun v => K v h
def retK (P : Program) (rs : List ResultVar) (Q : Value → Heap → Prop) : VX → Env → Heap → Prop
  | .norm, e, h | .ret, e, h => match (rs.mapM (resultV P e h)).bind fun vs => match vs with
    | [v] => some v
    | vs => if vs.all (fun v => match v with | .tuple vs => vs.size == 0 | _ => true) then some (.tuple vs.toArray) else none with
    | some v => Q v h
    | none => False
  | _, _, _ => False

section
variable (P : Program) [Laid P] (e : Env) (h : Heap) (K : Value → Heap → Prop) (Q : VX → Env → Heap → Prop)

theorem s_seq (a b : Code) : wpV P (.seq a b) e h Q = wpV P a e h (SeqK P b Q) := rfl
theorem s_seq_norm (b : Code) : SeqK P b Q .norm e h = wpV P b e h Q := rfl
theorem s_seq_exit (b : Code) (i : Nat) : SeqK P b Q (.exit i) e h = Q (.exit i) e h := rfl
theorem s_seq_ret (b : Code) : SeqK P b Q .ret e h = Q .ret e h := rfl
theorem s_skip : wpV P .skip e h Q = Q .norm e h := rfl
theorem s_exit (i : Nat) : wpV P (.exit i) e h Q = Q (.exit i) e h := rfl
theorem s_ret : wpV P .ret e h Q = Q .ret e h := rfl
theorem s_block (i : Nat) (b : Code) : wpV P (.block i b) e h Q = wpV P b e h (ExitK i Q) := rfl
theorem s_block_norm (i : Nat) : ExitK i Q .norm e h = Q .norm e h := rfl
theorem s_block_ret (i : Nat) : ExitK i Q .ret e h = Q .ret e h := rfl
theorem s_block_exit (i j : Nat) : ExitK i Q (.exit j) e h = if j = i then Q .norm e h else Q (.exit j) e h := rfl
theorem s_cond (c : Operand) (a b : Code) : wpV P (.cond c a b) e h Q = condK P (evO e c) a b e h Q := rfl
theorem s_cond_true (a b : Code) : condK P (.bool true) a b e h Q = wpV P a e h Q := rfl
theorem s_cond_false (a b : Code) : condK P (.bool false) a b e h Q = wpV P b e h Q := rfl
theorem s_region (id : Nat) (l : List Oper) : wpV P (.region id l.toArray false) e h Q = opsV P l.toArray l e h (Q .norm) := rfl
theorem s_ops_nil (all : Array Oper) (K : Env → Heap → Prop) : opsV P all [] e h K = K e h := rfl
theorem s_ops (all : Array Oper) (K : Env → Heap → Prop) (d : Option Tmp) (op : Op) (t : TypeId) (pos : String) (after : Array Edge) (os : List Oper) :
    opsV P all (⟨d, op, t, pos, after, none⟩ :: os) e h K = opV P op e h (OpsK P all os d e K) := rfl
theorem s_ops_guard (l : List Oper) (K : Env → Heap → Prop) (d : Option Tmp) (op : Op) (t : TypeId) (pos : String) (after : Array Edge) (os : List Oper) (j : Nat) (want : Bool) :
    opsV P l.toArray (⟨d, op, t, pos, after, some (j, want)⟩ :: os) e h K = match (l[j]?).bind (·.dst) with | some t => guardK P l.toArray (e t) want op d os e h K | none => False := by
  simp only [opsV, guardV, List.getElem?_toArray]
  cases hj : (l[j]?).bind (·.dst) with
  | none => rfl
  | some t =>
    simp only []
    unfold guardK
    cases e t with
    | bool b => cases b <;> cases want <;> rfl
    | float k n => rfl
    | _ => rfl
theorem s_guard_bool (all : Array Oper) (b want : Bool) (op : Op) (d : Option Tmp) (os : List Oper) (K : Env → Heap → Prop) :
    guardK P all (.bool b) want op d os e h K = if b = want then opV P op e h (OpsK P all os d e K) else opsV P all os (putV e d SK) h K := rfl
theorem s_guard_tt (all : Array Oper) (op : Op) (d : Option Tmp) (os : List Oper) (K : Env → Heap → Prop) : guardK P all (.bool true) true op d os e h K = opV P op e h (OpsK P all os d e K) := rfl
theorem s_guard_ff (all : Array Oper) (op : Op) (d : Option Tmp) (os : List Oper) (K : Env → Heap → Prop) : guardK P all (.bool false) false op d os e h K = opV P op e h (OpsK P all os d e K) := rfl
theorem s_guard_tf (all : Array Oper) (op : Op) (d : Option Tmp) (os : List Oper) (K : Env → Heap → Prop) : guardK P all (.bool true) false op d os e h K = opsV P all os (putV e d SK) h K := rfl
theorem s_guard_ft (all : Array Oper) (op : Op) (d : Option Tmp) (os : List Oper) (K : Env → Heap → Prop) : guardK P all (.bool false) true op d os e h K = opsV P all os (putV e d SK) h K := rfl
theorem s_guard_skip (all : Array Oper) (want : Bool) (op : Op) (d : Option Tmp) (os : List Oper) (K : Env → Heap → Prop) :
    guardK P all SK want op d os e h K = opsV P all os (putV e d SK) h K := rfl
theorem s_opsK (all : Array Oper) (os : List Oper) (d : Option Tmp) (K : Env → Heap → Prop) (v : Value) : OpsK P all os d e K v h = opsV P all os (putV e d v) h K := rfl
theorem s_put (t : Nat) (v : Value) : putV e (some t) v = upd e t v := rfl
theorem s_put_none (v : Value) : putV e none v = e := rfl
theorem s_upd (t s : Nat) (v : Value) : upd e t v s = if s = t then v else e s := rfl
theorem s_tmp (t : Nat) : evO e (.tmp t) = e t := rfl
theorem s_func (f : FuncId) : evO e (.func f) = .func (.func f) #[] #[] := rfl
theorem s_int (k : IntKind) (n : Int) : evO e (.const (.int k n)) = .int k n := rfl
theorem s_bool (b : Bool) : evO e (.const (.bool b)) = .bool b := rfl
theorem s_string (s : ByteArray) : evO e (.const (.string s)) = .string s := rfl
theorem s_nilp : evO e (.const (.pointer none)) = .pointer none := rfl
theorem s_nils : evO e (.const (.slice none 0 0)) = .slice none 0 0 := rfl
theorem s_nilI : evO e (.const .nilIface) = .nilIface := rfl
theorem s_nilF : evO e (.const .nilFunc) = .nilFunc := rfl
theorem s_move (x : Operand) : opV P (.move x) e h K = K (evO e x) h := rfl
theorem s_assign (x : Operand) : opV P (.assign x) e h K = K (evO e x) h := rfl
theorem s_load (t : TypeId) (a : Operand) : opV P (.load t a) e h K = optK (loadV P t (evO e a) h) h K := rfl
theorem s_store (t : TypeId) (a x : Operand) : opV P (.store t a x) e h K = stK (storeV P t (evO e a) (evO e x) h) K := rfl
theorem s_bin (op : BinOp) (t t2 : TypeId) (x y : Operand) : opV P (.binOp op t x y t2) e h K = binK P (binV op (((tk P t).map (·.kind)).getD 0) (evO e x) (evO e y)) op t x y (evO e x) (evO e y) K h := by
  simp only [opV, binK]
  cases binV op (((tk P t).map (·.kind)).getD 0) (evO e x) (evO e y) <;> rfl
theorem s_un (op : UnOp) (t : TypeId) (x : Operand) : opV P (.unOp op t x) e h K = optK (unV op (evO e x)) h K := rfl
theorem s_convert (s t : TypeId) (x : Operand) : opV P (.convert s t x) e h K = optH (convV P s t (evO e x) h) K := rfl
theorem s_field (t : TypeId) (x : Operand) (f : Nat) : opV P (.field t x f) e h K = optK (fieldV P t (evO e x) f) h K := rfl
theorem s_fieldAddr (t : TypeId) (x : Operand) (f : Nat) : opV P (.fieldAddr t x f) e h K = optK (fieldAddrV P t (evO e x) f) h K := rfl
theorem s_index (t : TypeId) (x i : Operand) : opV P (.index t x i) e h K = optK (indexV P t (evO e x) (evO e i)) h K := rfl
theorem s_indexAddr (t : TypeId) (x i : Operand) : opV P (.indexAddr t x i) e h K = optK (indexAddrV P t (evO e x) (evO e i)) h K := rfl
theorem s_extract (x : Operand) (i : Nat) : opV P (.extract x i) e h K = optK (extractV (evO e x) i) h K := rfl
theorem s_slice (t : TypeId) (x : Operand) (lo hi : Option Operand) : opV P (.slice t x lo hi none) e h K = optK (sliceV P t e (evO e x) lo hi) h K := rfl
theorem s_nilCheck (x : Operand) : opV P (.nilCheck x) e h K = optK (nilCheckV (evO e x)) h K := rfl
theorem s_alloc (t : TypeId) : opV P (.alloc t) e h K = match tk P t with | some k => K (.pointer (some ⟨h.length, 0, none⟩)) (h ++ [some ⟨k.zero, t, false, true⟩]) | none => False := rfl
theorem s_box (t : TypeId) (x : Operand) : opV P (.box t x) e h K = match tk P t, cellsV (evO e x) with | some k, some cs => cs.length = k.size ∧ K (.pointer (some ⟨h.length, 0, none⟩)) (h ++ [some ⟨cs, t, false, true⟩]) | _, _ => False := rfl
theorem s_build (t : TypeId) (l : List (Nat × Operand)) : opV P (.build t l.toArray) e h K = optK (buildV P t (l.map fun (i, x) => (i, evO e x))) h K := rfl
theorem s_buildSlice (t n : TypeId) (l : List (Nat × Operand)) : opV P (.buildSlice t n l.toArray) e h K = optH (buildSliceV P t n (l.map fun (i, x) => (i, evO e x)) h) K := rfl
theorem s_makeSlice (t : TypeId) (l c : Operand) : opV P (.makeSlice t l c) e h K = optH (makeSliceV P t (evO e l) (evO e c) h) K := rfl
theorem s_makeFunc (fn : Fn) (a b : List Operand) : opV P (.makeFunc fn a.toArray b.toArray) e h K = ((a.all (fun x => capOk (evO e x)) && b.all fun x => capOk (evO e x)) = true ∧ K (.func fn (a.map (evO e)).toArray (b.map (evO e)).toArray) h) := rfl
theorem s_builtin (b : Builtin) (l : List Operand) (ts : Array TypeId) : opV P (.call ⟨.builtin b, l.toArray, ts⟩) e h K = builtinV P b ts (l.map (evO e)) h K := rfl
theorem s_call (f : Operand) (l : List Operand) (ts : Array TypeId) : opV P (.call ⟨.value f, l.toArray, ts⟩) e h K = callDyn P (evO e f) (l.map (evO e)) h K := rfl
theorem s_callDyn (f : FuncId) (a b : List Value) (args : List Value) : callDyn P (.func (.func f) a.toArray b.toArray) args h K = CallV P f (a ++ args ++ b) h K := by simp [callDyn]
theorem s_callDyn0 (f : FuncId) (args : List Value) : callDyn P (.func (.func f) #[] #[]) args h K = CallV P f args h K := by simp [callDyn]
theorem s_pick (c a b : Operand) : opV P (.pick c a b) e h K = match evO e c with | .bool true => K (evO e a) h | .bool false => K (evO e b) h | _ => False := rfl
theorem s_pick_bool (b : Bool) (A B : Prop) : (match Value.bool b with | .bool true => A | .bool false => B | _ => False) = if b = true then A else B := by cases b <;> rfl
theorem s_stK (h' : Heap) : stK (some h') K = K UN h' := rfl
theorem s_optK (v : Value) : optK (some v) h K = K v h := rfl
theorem s_optH (v : Value) : optH (some (v, h)) K = K v h := rfl
theorem s_binK (v : Value) (op : BinOp) (t : TypeId) (xo yo : Operand) (x y : Value) : binK P (some v) op t xo yo x y K h = K v h := rfl
theorem s_len (t : TypeId) (A : Option Addr) (n c : Nat) : builtinV P .len #[t] [.slice A n c] h K = ((tElem P t).isSome = true ∧ K (.int .i64 n) h) := rfl
theorem s_len_str (t : TypeId) (s : ByteArray) : builtinV P .len #[t] [.string s] h K = ((tk P t).map (·.kind) = some 3 ∧ K (.int .i64 s.size) h) := rfl
theorem s_append (t t2 : TypeId) (s x : Value) : builtinV P .append #[t, t2] [s, x] h K = (((tk P t2).map (·.kind) = some 5 ∨ (tk P t2).map (·.kind) = some 3) ∧ optH (appendV P t s x h) K) := rfl
theorem s_copy (t t2 : TypeId) (d s : Value) : builtinV P .copy #[t, t2] [d, s] h K = optH (copyV P t d s h) K := rfl
end

section
variable (P : Program)
theorem b_add (n : Nat) (k : IntKind) (a b : Int) : binV .add n (.int k a) (.int k b) = some (.int k (k.wrap (a + b))) := by simp [binV, intV]
theorem b_sub (n : Nat) (k : IntKind) (a b : Int) : binV .sub n (.int k a) (.int k b) = some (.int k (k.wrap (a - b))) := by simp [binV, intV]
theorem b_mul (n : Nat) (k : IntKind) (a b : Int) : binV .mul n (.int k a) (.int k b) = some (.int k (k.wrap (a * b))) := by simp [binV, intV]
theorem b_quo (n : Nat) (k : IntKind) (a b : Int) : binV .quo n (.int k a) (.int k b) = if b = 0 then none else some (.int k (k.wrap (a.tdiv b))) := by simp [binV, intV]
theorem b_rem (n : Nat) (k : IntKind) (a b : Int) : binV .rem n (.int k a) (.int k b) = if b = 0 then none else some (.int k (a.tmod b)) := by simp [binV, intV]
theorem b_eql (n : Nat) (k : IntKind) (a b : Int) : binV .eql n (.int k a) (.int k b) = some (.bool (decide (a = b))) := by simp [binV, intV]
theorem b_neq (n : Nat) (k : IntKind) (a b : Int) : binV .neq n (.int k a) (.int k b) = some (.bool (!decide (a = b))) := by simp [binV, intV]
theorem b_lss (n : Nat) (k : IntKind) (a b : Int) : binV .lss n (.int k a) (.int k b) = some (.bool (decide (a < b))) := by simp [binV, intV]
theorem b_leq (n : Nat) (k : IntKind) (a b : Int) : binV .leq n (.int k a) (.int k b) = some (.bool (decide (a ≤ b))) := by simp [binV, intV]
theorem b_gtr (n : Nat) (k : IntKind) (a b : Int) : binV .gtr n (.int k a) (.int k b) = some (.bool (decide (b < a))) := by simp [binV, intV]
theorem b_geq (n : Nat) (k : IntKind) (a b : Int) : binV .geq n (.int k a) (.int k b) = some (.bool (decide (b ≤ a))) := by simp [binV, intV]
theorem b_shl (n : Nat) (k k' : IntKind) (a b : Int) : binV .shl n (.int k a) (.int k' b) = if b < 0 then none else some (.int k (k.wrap (a * 2 ^ min b.toNat k.bits))) := by simp [binV, shiftV]
theorem b_shr (n : Nat) (k k' : IntKind) (a b : Int) : binV .shr n (.int k a) (.int k' b) = if b < 0 then none else some (.int k (a.fdiv (2 ^ min b.toNat k.bits))) := by simp [binV, shiftV]
theorem b_str (op : BinOp) (n : Nat) (a b : ByteArray) : binV op n (.string a) (.string b) = strV op a b := rfl
theorem b_eqb (a b : Bool) : binV .eql 1 (.bool a) (.bool b) = some (.bool (a == b)) := rfl
theorem b_neb (a b : Bool) : binV .neq 1 (.bool a) (.bool b) = some (.bool !(a == b)) := rfl
theorem b_eq_nil (b : Option Addr) (n c : Nat) : binV .eql 5 (.slice b n c) (.slice none 0 0) = some (.bool b.isNone) := by cases b <;> rfl
theorem b_ne_nil (b : Option Addr) (n c : Nat) : binV .neq 5 (.slice b n c) (.slice none 0 0) = some (.bool !b.isNone) := by cases b <;> rfl
theorem b_eq_nilp (b : Option Addr) : binV .eql 4 (.pointer b) (.pointer none) = some (.bool b.isNone) := by cases b <;> rfl
theorem b_ne_nilp (b : Option Addr) : binV .neq 4 (.pointer b) (.pointer none) = some (.bool !b.isNone) := by cases b <;> rfl
theorem b_ne_err (t : TypeId) (v : Value) : binV .neq 7 (.iface t v) .nilIface = some (.bool true) := rfl
theorem b_eq_err (t : TypeId) (v : Value) : binV .eql 7 (.iface t v) .nilIface = some (.bool false) := rfl
theorem u_neg (k : IntKind) (n : Int) : unV .neg (.int k n) = some (.int k (k.wrap (0 - n))) := rfl
theorem u_not (b : Bool) : unV .not (.bool b) = some (.bool !b) := rfl
end

theorem wrap64_in {x : Int} (h1 : -9223372036854775808 ≤ x) (h2 : x ≤ 9223372036854775807) : IntKind.wrap .i64 x = x := by
  simp [IntKind.wrap, IntKind.bits, IntKind.signed]; omega

/-- Two ways. -/
theorem condK_intro {P : Program} [Laid P] {b : Bool} {A B : Code} {e : Env} {h : Heap} {Q : VX → Env → Heap → Prop} (h1 : b = true → wpV P A e h Q) (h2 : b = false → wpV P B e h Q) : condK P (.bool b) A B e h Q := by
  cases b
  · exact h2 rfl
  · exact h1 rfl
theorem condK_dec {P : Program} [Laid P] {p : Prop} [Decidable p] {A B : Code} {e : Env} {h : Heap} {Q : VX → Env → Heap → Prop} (h1 : p → wpV P A e h Q) (h2 : ¬ p → wpV P B e h Q) : condK P (.bool (decide p)) A B e h Q :=
  condK_intro (fun hb => h1 (of_decide_eq_true hb)) (fun hb => h2 (of_decide_eq_false hb))

/-- What a round of a loop owes. -/
def LoopK (I : Nat → Env → Heap → Prop) (n : Nat) (Q : VX → Env → Heap → Prop) : VX → Env → Heap → Prop := fun x e h => match x with | .norm => ∃ m, m < n ∧ I m e h | x => Q x e h
theorem s_loop_norm (I : Nat → Env → Heap → Prop) (n : Nat) (Q : VX → Env → Heap → Prop) (e : Env) (h : Heap) : LoopK I n Q .norm e h = ∃ m, m < n ∧ I m e h := rfl
theorem s_loop_exit (I : Nat → Env → Heap → Prop) (n i : Nat) (Q : VX → Env → Heap → Prop) (e : Env) (h : Heap) : LoopK I n Q (.exit i) e h = Q (.exit i) e h := rfl
theorem s_loop_ret (I : Nat → Env → Heap → Prop) (n : Nat) (Q : VX → Env → Heap → Prop) (e : Env) (h : Heap) : LoopK I n Q .ret e h = Q .ret e h := rfl

/-! ### what a function hands back -/
def plainV : Value → Bool
  | .tuple vs => vs.size == 0
  | _ => true
theorem r_one (P : Program) (t : Nat) (Q : Value → Heap → Prop) (e : Env) (h : Heap) : retK P [.tmp t] Q .ret e h = Q (e t) h := by simp [retK, resultV]
theorem r_two (P : Program) (t s : Nat) (Q : Value → Heap → Prop) (e : Env) (h : Heap) : retK P [.tmp t, .tmp s] Q .ret e h = if plainV (e t) && plainV (e s) then Q (.tuple #[e t, e s]) h else False := by
  simp only [retK, List.mapM_cons, List.mapM_nil, resultV, Option.pure_def, Option.bind_eq_bind, Option.bind_some, List.all_cons, List.all_nil, Bool.and_true]
  have : ∀ v : Value, (match v with | .tuple vs => vs.size == 0 | _ => true) = plainV v := fun v => by cases v <;> rfl
  simp only [this]
  by_cases hc : (plainV (e t) && plainV (e s)) = true
  · rw [if_pos hc, if_pos hc]
  · rw [if_neg hc, if_neg hc]
theorem r_three (P : Program) (t s u : Nat) (Q : Value → Heap → Prop) (e : Env) (h : Heap) : retK P [.tmp t, .tmp s, .tmp u] Q .ret e h = if plainV (e t) && (plainV (e s) && plainV (e u)) then Q (.tuple #[e t, e s, e u]) h else False := by
  simp only [retK, List.mapM_cons, List.mapM_nil, resultV, Option.pure_def, Option.bind_eq_bind, Option.bind_some, List.all_cons, List.all_nil, Bool.and_true]
  have : ∀ v : Value, (match v with | .tuple vs => vs.size == 0 | _ => true) = plainV v := fun v => by cases v <;> rfl
  simp only [this]
  by_cases hc : (plainV (e t) && (plainV (e s) && plainV (e u))) = true
  · rw [if_pos hc, if_pos hc]
  · rw [if_neg hc, if_neg hc]
theorem r_four (P : Program) (t s u x : Nat) (Q : Value → Heap → Prop) (e : Env) (h : Heap) : retK P [.tmp t, .tmp s, .tmp u, .tmp x] Q .ret e h = if plainV (e t) && (plainV (e s) && (plainV (e u) && plainV (e x))) then Q (.tuple #[e t, e s, e u, e x]) h else False := by
  simp only [retK, List.mapM_cons, List.mapM_nil, resultV, Option.pure_def, Option.bind_eq_bind, Option.bind_some, List.all_cons, List.all_nil, Bool.and_true]
  have : ∀ v : Value, (match v with | .tuple vs => vs.size == 0 | _ => true) = plainV v := fun v => by cases v <;> rfl
  simp only [this]
  by_cases hc : (plainV (e t) && (plainV (e s) && (plainV (e u) && plainV (e x)))) = true
  · rw [if_pos hc, if_pos hc]
  · rw [if_neg hc, if_neg hc]
theorem r_none (P : Program) (Q : Value → Heap → Prop) (e : Env) (h : Heap) : retK P [] Q .ret e h = Q UN h := by simp [retK]
theorem r_none' (P : Program) (Q : Value → Heap → Prop) (e : Env) (h : Heap) : retK P [] Q .norm e h = Q UN h := by simp [retK]
theorem r_cell (P : Program) (t a : Nat) (Q : Value → Heap → Prop) (e : Env) (h : Heap) : retK P [.cell a t] Q .ret e h = optK (loadV P t (e a) h) h Q := by
  simp only [retK, List.mapM_cons, List.mapM_nil, resultV, Option.pure_def, Option.bind_eq_bind]
  cases loadV P t (e a) h <;> simp [optK]
/-! ### results out of cells -/
def retL (Q : Value → Heap → Prop) (h : Heap) : List (Option Value) → List Value → Prop
  | [], vs => if vs.all plainV then Q (.tuple vs.toArray) h else False
  | none :: _, _ => False
  | some v :: l, vs => retL Q h l (vs ++ [v])
theorem r2_gen (P : Program) (r1 r2 : ResultVar) (Q : Value → Heap → Prop) (e : Env) (h : Heap) : retK P [r1, r2] Q .ret e h = retL Q h [resultV P e h r1, resultV P e h r2] [] := by
  simp only [retK, List.mapM_cons, List.mapM_nil, Option.pure_def, Option.bind_eq_bind]
  have hp : ∀ v : Value, (match v with | .tuple vs => vs.size == 0 | _ => true) = plainV v := fun v => by cases v <;> rfl
  cases resultV P e h r1 with
  | none => rfl
  | some a =>
    cases resultV P e h r2 with
    | none => rfl
    | some b =>
      simp only [Option.bind_some, retL, List.nil_append, List.cons_append, List.all_cons, List.all_nil, Bool.and_true, hp]
      by_cases hc : (plainV a && plainV b) = true
      · rw [if_pos hc, if_pos hc]
      · rw [if_neg hc, if_neg hc]
theorem r3_gen (P : Program) (r1 r2 r3 : ResultVar) (Q : Value → Heap → Prop) (e : Env) (h : Heap) : retK P [r1, r2, r3] Q .ret e h = retL Q h [resultV P e h r1, resultV P e h r2, resultV P e h r3] [] := by
  simp only [retK, List.mapM_cons, List.mapM_nil, Option.pure_def, Option.bind_eq_bind]
  have hp : ∀ v : Value, (match v with | .tuple vs => vs.size == 0 | _ => true) = plainV v := fun v => by cases v <;> rfl
  cases resultV P e h r1 with
  | none => rfl
  | some a =>
    cases resultV P e h r2 with
    | none => rfl
    | some b =>
      cases resultV P e h r3 with
      | none => rfl
      | some c =>
        simp only [Option.bind_some, retL, List.nil_append, List.cons_append, List.all_cons, List.all_nil, Bool.and_true, hp]
        by_cases hc : (plainV a && (plainV b && plainV c)) = true
        · rw [if_pos hc, if_pos hc]
        · rw [if_neg hc, if_neg hc]
theorem p_int (k : IntKind) (n : Int) : plainV (.int k n) = true := rfl
theorem p_bool (b : Bool) : plainV (.bool b) = true := rfl
theorem p_string (b : ByteArray) : plainV (.string b) = true := rfl
theorem p_slice (a : Option Addr) (n c : Nat) : plainV (.slice a n c) = true := rfl
theorem p_agg (a : Array Value) : plainV (.agg a) = true := rfl
theorem p_pointer (a : Option Addr) : plainV (.pointer a) = true := rfl
theorem p_iface (t : TypeId) (v : Value) : plainV (.iface t v) = true := rfl
theorem p_nilIface : plainV .nilIface = true := rfl

/-- A loop, by a measure. -/
theorem loop_rule {P : Program} [Laid P] {b : Code} {Q : VX → Env → Heap → Prop} (I : Nat → Env → Heap → Prop) (round : ∀ n e h, I n e h → wpV P b e h (LoopK I n Q)) :
    ∀ n e h, I n e h → wpV P (.loop b) e h Q := by
  have mono : ∀ (c : Code) (e : Env) (h : Heap) (Q Q' : VX → Env → Heap → Prop), (∀ x e h, Q x e h → Q' x e h) → wpV P c e h Q → wpV P c e h Q' := by
    intro c
    induction c with
    | skip => intro e h Q Q' hq hw; exact hq _ _ _ hw
    | region id ops draw =>
      intro e h Q Q' hq hw
      cases draw with
      | false =>
        have key : ∀ (os : List Oper) (e : Env) (h : Heap), opsV P ops os e h (Q .norm) → opsV P ops os e h (Q' .norm) := by
          intro os
          induction os with
          | nil => intro e h hw; exact hq _ _ _ hw
          | cons o os ih =>
            intro e h hw
            unfold opsV at hw ⊢
            split at hw
            · exact opV_mono (fun v h' hv => ih _ _ hv) hw
            · exact ih _ _ hw
            · exact hw.elim
        exact key _ _ _ hw
      | true =>
        rcases hw with ⟨order, hok, hw⟩ | ⟨pre, tail, hok, hw⟩
        · exact .inl ⟨order, hok, opsE_mono (fun e h _ hk => hq .norm e h hk) _ _ _ _ hw⟩
        · exact .inr ⟨pre, tail, hok, opsE_mono (fun e h held ht => tailK_mono (fun e h hk => hq .norm e h hk) _ _ _ _ _ ht) _ _ _ _ hw⟩
    | seq a b iha ihb =>
      intro e h Q Q' hq hw
      refine iha _ _ _ _ (fun x e h hx => ?_) hw
      cases x with
      | norm => exact ihb _ _ _ _ hq hx
      | exit i => exact hq _ _ _ hx
      | ret => exact hq _ _ _ hx
    | cond c a b iha ihb =>
      intro e h Q Q' hq hw
      simp only [wpV] at hw ⊢
      split at hw
      · exact iha _ _ _ _ hq hw
      · exact ihb _ _ _ _ hq hw
      · exact hw.elim
    | block id b ih =>
      intro e h Q Q' hq hw
      refine ih _ _ _ _ (fun x e h hx => ?_) hw
      cases x with
      | norm => exact hq _ _ _ hx
      | exit i =>
        simp only [exitV] at hx ⊢
        split at hx
        · rename_i hi; rw [if_pos hi]; exact hq _ _ _ hx
        · rename_i hi; rw [if_neg hi]; exact hq _ _ _ hx
      | ret => exact hq _ _ _ hx
    | loop b ih =>
      intro e h Q Q' hq hw
      obtain ⟨n, hn⟩ := hw
      refine ⟨n, ?_⟩
      have key : ∀ n e h, iterV (wpV P b) Q n e h → iterV (wpV P b) Q' n e h := by
        intro n
        induction n with
        | zero => intro e h hh; exact hh
        | succ n ihn =>
          intro e h hh
          refine ih _ _ _ _ (fun x e h hx => ?_) hh
          cases x with
          | norm => exact ihn _ _ hx
          | exit i => exact hq _ _ _ hx
          | ret => exact hq _ _ _ hx
      exact key n e h hn
    | exit id => intro e h Q Q' hq hw; exact hq _ _ _ hw
    | ret => intro e h Q Q' hq hw; exact hq _ _ _ hw
    | _ => intro e h Q Q' hq hw; exact hw.elim
  have iter_mono : ∀ (n m : Nat) (e : Env) (h : Heap), n ≤ m → iterV (wpV P b) Q n e h → iterV (wpV P b) Q m e h := by
    intro n
    induction n with
    | zero => intro m e h _ hh; exact hh.elim
    | succ n ih =>
      intro m e h hle hh
      cases m with
      | zero => omega
      | succ m =>
        refine mono _ _ _ _ _ (fun x e h hx => ?_) hh
        cases x with
        | norm => exact ih m e h (by omega) hx
        | exit i => exact hx
        | ret => exact hx
  have key : ∀ n e h, I n e h → iterV (wpV P b) Q (n + 1) e h := by
    intro n
    induction n using Nat.strongRecOn with
    | _ n ih =>
      intro e h hI
      refine mono _ _ _ _ _ (fun x e h hx => ?_) (round n e h hI)
      cases x with
      | norm =>
        obtain ⟨m, hm, hI'⟩ := hx
        exact iter_mono (m + 1) n e h (by omega) (ih m hm e h hI')
      | exit i => exact hx
      | ret => exact hx
  intro n e h hI
  exact ⟨n + 1, key n e h hI⟩

theorem CallsV.start {P : Program} [Laid P] {f : FuncId} {fn : Func} {c : Code} {rs : List ResultVar} {args : List Value} {h : Heap} {Q : Value → Heap → Prop} (hf : P.funcs[f]? = some fn) (hb : fn.body = some c) (hr : fn.results.toList = rs) (hok : fnOk fn c = true) (hlen : args.length ≤ fn.ntmps)
    (hv : wpV P c (startEnv args) h (retK P rs Q)) : CallsV P f args h Q := by
  subst hr
  exact CallsV.intro (drawSound P) hf hb hok hlen hv

theorem pick_t (A B : Prop) : (match Value.bool true with | .bool true => A | .bool false => B | _ => False) = A := rfl
theorem pick_f (A B : Prop) : (match Value.bool false with | .bool true => A | .bool false => B | _ => False) = B := rfl

/-- All steps, in one word for simp. -/
def VS := And.intro @s_seq (And.intro @s_seq_norm (And.intro @s_seq_exit (And.intro @s_seq_ret (And.intro @s_skip (And.intro @s_exit (And.intro @s_ret (And.intro @s_block (And.intro @s_block_norm (And.intro @s_block_ret (And.intro @s_block_exit (And.intro @s_cond (And.intro @s_cond_true (And.intro @s_cond_false (And.intro @s_region (And.intro @s_ops_nil (And.intro @s_ops (And.intro @s_ops_guard (And.intro @s_guard_tt (And.intro @s_guard_ff (And.intro @s_guard_tf (And.intro @s_guard_ft (And.intro @s_guard_skip (And.intro @s_opsK (And.intro @s_put (And.intro @s_put_none (And.intro @s_upd (And.intro @s_tmp (And.intro @s_func (And.intro @s_int (And.intro @s_bool (And.intro @s_string (And.intro @s_nilp (And.intro @s_nils (And.intro @s_nilI (And.intro @s_nilF (And.intro @s_move (And.intro @s_assign (And.intro @s_load (And.intro @s_store (And.intro @s_bin (And.intro @s_un (And.intro @s_convert (And.intro @s_field (And.intro @s_fieldAddr (And.intro @s_index (And.intro @s_indexAddr (And.intro @s_extract (And.intro @s_slice (And.intro @s_nilCheck (And.intro @s_alloc (And.intro @s_box (And.intro @s_build (And.intro @s_buildSlice (And.intro @s_makeSlice (And.intro @s_makeFunc (And.intro @s_builtin (And.intro @s_call (And.intro @s_callDyn (And.intro @s_callDyn0 (And.intro @s_pick (And.intro @pick_t (And.intro @pick_f (And.intro @s_stK (And.intro @s_optK (And.intro @s_optH (And.intro @s_binK (And.intro @s_len (And.intro @s_len_str (And.intro @s_append (And.intro @s_copy (And.intro @b_add (And.intro @b_sub (And.intro @b_mul (And.intro @b_quo (And.intro @b_rem (And.intro @b_eql (And.intro @b_neq (And.intro @b_lss (And.intro @b_leq (And.intro @b_gtr (And.intro @b_geq (And.intro @b_shl (And.intro @b_shr (And.intro @b_str (And.intro @b_eqb (And.intro @b_neb (And.intro @b_eq_nil (And.intro @b_ne_nil (And.intro @b_eq_nilp (And.intro @b_ne_nilp (And.intro @b_ne_err (And.intro @b_eq_err (And.intro @u_neg (And.intro @u_not (And.intro @s_loop_norm (And.intro @s_loop_exit (And.intro @s_loop_ret (And.intro @r_one (And.intro @r_two (And.intro @r_three (And.intro @r_four (And.intro @r_none (And.intro @r_none' (And.intro @r_cell (And.intro @p_int (And.intro @p_bool (And.intro @p_string (And.intro @p_slice (And.intro @p_agg (And.intro @p_pointer (And.intro @p_iface (@p_nilIface))))))))))))))))))))))))))))))))))))))))))))))))))))))))))))))))))))))))))))))))))))))))))))))))))))))))))))))))

end Go.V

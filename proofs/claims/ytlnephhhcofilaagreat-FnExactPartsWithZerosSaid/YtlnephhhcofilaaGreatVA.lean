/- The layer V and contracts of functions over it, or plain laws behind one statement (own work): VA=V1,V2,V3,V4,V5,V6,V7,V8,V9,V10,V11,V12,V13,V14,V15. Conditions: those told in each theorem. -/
import Derived.Calls
import Derived.Orders
import Derived.Tactics
import Derived.Below
import Derived.Laws.Cells
import Derived.Laws.Append
import Derived.Laws.Rows
import Derived.Laws.Slices
import Derived.Lib.ConvBytes
import Derived.Laws.BytesString
set_option linter.all false
section
/- The layer V, part 1: an abstract heap, how its values stand to the machine's, and what each operation does on it (definitions only). -/
namespace Go.V
open Go Go.RowKit

/-- A block of the abstract heap: its cells, its element type, may it not be written (what came in), is its room known exactly. -/
structure Blk where
  cells : List Value
  ty : TypeId
  ro : Bool
  ex : Bool

/-- 'none': a block that an append has left behind. -/
abbrev Heap := List (Option Blk)

/-- Where an abstract block lies: the machine's block, the first cell, how many elements of room lie behind what is told. -/
structure Place where
  blk : Nat
  base : Nat
  slack : Nat

/-- What is not known at all. -/
abbrev UN : Value := .tuple #[]
/-- An operation that was passed over. -/
abbrev SK : Value := .float .f32 0

/-- Two lists, place by place. -/
inductive L2 {α β : Type} (R : α → β → Prop) : List α → List β → Prop
  | nil : L2 R [] []
  | cons {a b l m} : R a b → L2 R l m → L2 R (a :: l) (b :: m)

/-- One cell's value. -/
inductive BR (ι : List Place) : Value → Value → Prop
  | int (k n) : BR ι (.int k n) (.int k n)
  | bool (b) : BR ι (.bool b) (.bool b)
  | string (s) : BR ι (.string s) (.string s)
  | nilp : BR ι (.pointer none) (.pointer none)
  | ptr {b off p} : ι[b]? = some p → BR ι (.pointer (some ⟨b, off, none⟩)) (.pointer (some ⟨p.blk, p.base + off, none⟩))
  | nils : BR ι (.slice none 0 0) (.slice none 0 0)
  | slice {b off len cap p} : ι[b]? = some p → 0 < cap → BR ι (.slice (some ⟨b, off, none⟩) len cap) (.slice (some ⟨p.blk, p.base + off, none⟩) len (cap + p.slack))
  | slice0 {b off a c p} : ι[b]? = some p → (c = 0 ∨ (a = ⟨p.blk, p.base + off, none⟩ ∧ c = p.slack)) → BR ι (.slice (some ⟨b, off, none⟩) 0 0) (.slice (some a) 0 c)
  | nilI : BR ι .nilIface .nilIface
  | nilF : BR ι .nilFunc .nilFunc
  | tok (t v) : BR ι (.iface 0 (.tuple #[])) (.iface t v)

inductive FR (ι : List Place) : Value → Value → Prop
  | base {v u} : BR ι v u → FR ι v u
  | func (fn) {a b c d : List Value} : L2 (BR ι) a b → L2 (BR ι) c d → FR ι (.func fn a.toArray c.toArray) (.func fn b.toArray d.toArray)

/-- A slot's value that is no tuple. -/
inductive AR (ι : List Place) : Value → Value → Prop
  | junk (u) : AR ι UN u
  | skip : AR ι SK undef
  | flat {v u} : FR ι v u → AR ι v u
  | agg {a b : List Value} : L2 (FR ι) a b → AR ι (.agg a.toArray) (.agg b.toArray)

inductive VR (ι : List Place) : Value → Value → Prop
  | one {v u} : AR ι v u → VR ι v u
  | tup {a b : List Value} : L2 (AR ι) a b → VR ι (.tuple a.toArray) (.tuple b.toArray)

/-! ### types -/
structure TK where
  size : Nat
  bytes : Nat
  zero : List Value
  agg : Bool
  /-- 1 bool, 2 int, 3 string, 4 pointer, 5 slice, 6 struct, 7 interface, 8 func, 9 array, 0 another -/
  kind : Nat
  /-- a struct: are its fields' types known? -/
  fok : Bool

def closed1 : Value → Bool
  | .int _ _ | .bool _ | .string _ | .pointer none | .nilIface | .nilFunc => true
  | .slice none l c => l == 0 && c == 0
  | _ => false

def kindOf : TypeDesc → Nat
  | .bool => 1 | .int _ => 2 | .string => 3 | .pointer _ => 4 | .slice _ => 5 | .struct _ => 6 | .interface _ => 7 | .func _ _ _ => 8 | .array _ _ => 9 | _ => 0

def tk (P : Program) (t : TypeId) : Option TK :=
  match P.info? t, P.underlying t with
  | some i, some d =>
    match i.zero with
    | some z =>
      if z.cells.toList.all closed1 && z.cells.size == i.size && (0 < i.size) && (0 < i.bytes) then
        some ⟨i.size, i.bytes, z.cells.toList, (kindOf d == 6 || kindOf d == 9), kindOf d, match d with | .struct fs => fs.toList.all (fun f => (P.info? f.type).isSome) | _ => false⟩
      else none
    | none => none
  | _, _ => none

/-- A slice type's element type. -/
def tElem (P : Program) (t : TypeId) : Option TypeId :=
  match P.underlying t with
  | some (.slice e) => some e
  | _ => none
/-- An array type's length and element type. -/
def tArr (P : Program) (t : TypeId) : Option (Nat × TypeId) :=
  match P.underlying t with
  | some (.array n e) => some (n, e)
  | _ => none
/-- A struct's field: the first cell, the type. -/
def tField (P : Program) (t : TypeId) (f : Nat) : Option (Nat × TypeId) :=
  match P.underlying t with
  | some (.struct fs) => (fs[f]?).map fun f => (f.offset, f.type)
  | _ => none
/-- A whole number's kind. -/
def tInt (P : Program) (t : TypeId) : Option IntKind :=
  match P.underlying t with
  | some (.int k) => some k
  | _ => none

/-! ### slots -/
abbrev Env := Nat → Value
def upd (e : Env) (t : Nat) (v : Value) : Env := fun s => if s = t then v else e s
def putV (e : Env) (d : Option Tmp) (v : Value) : Env := match d with | some t => upd e t v | none => e

def closeV (v : Value) : Value :=
  if closed1 v then v else match v with
    | .agg cs => if cs.toList.all closed1 then v else UN
    | _ => UN

def evO (e : Env) : Operand → Value
  | .tmp t => e t
  | .const v => closeV v
  | .global _ => UN
  | .func f => .func (.func f) #[] #[]

/-- A value's cells. -/
def cellsV : Value → Option (List Value)
  | .agg cs => some cs.toList
  | .tuple _ | .float _ _ => none
  | v => some [v]

/-! ### the heap -/
def getB (h : Heap) (b : Nat) : Option Blk := (h[b]?).join

def cellsAt (h : Heap) (b off n : Nat) : Option (List Value) :=
  match getB h b with
  | some k => if off + n ≤ k.cells.length then some ((k.cells.drop off).take n) else none
  | none => none

def loadV (P : Program) (t : TypeId) (a : Value) (h : Heap) : Option Value :=
  match a, tk P t with
  | .pointer (some ⟨b, off, none⟩), some k =>
    if k.agg then (cellsAt h b off k.size).map fun cs => .agg cs.toArray
    else (getB h b).bind fun blk => blk.cells[off]?
  | _, _ => none

def putCells (l : List Value) (off : Nat) (cs : List Value) : List Value := l.take off ++ cs ++ l.drop (off + cs.length)

def writeB (h : Heap) (b off : Nat) (cs : List Value) : Option Heap :=
  match getB h b with
  | some k => if !k.ro && decide (off + cs.length ≤ k.cells.length) then some (h.set b (some { k with cells := putCells k.cells off cs })) else none
  | none => none

def storeV (P : Program) (t : TypeId) (a x : Value) (h : Heap) : Option Heap :=
  match a, tk P t, cellsV x with
  | .pointer (some ⟨b, off, none⟩), some k, some cs => if cs.length = k.size then writeB h b off cs else none
  | _, _, _ => none

/-! ### operations on numbers, strings, bools -/
def bitsV (op : BinOp) (k : IntKind) (x y : Int) : Option Value :=
  let a := BitVec.ofInt k.bits x
  let b := BitVec.ofInt k.bits y
  match op with
  | .and => some (.int k (k.wrap (a &&& b).toNat))
  | .or => some (.int k (k.wrap (a ||| b).toNat))
  | .xor => some (.int k (k.wrap (a ^^^ b).toNat))
  | .andNot => some (.int k (k.wrap (a &&& ~~~b).toNat))
  | _ => none

def intV (op : BinOp) (k : IntKind) (a b : Int) : Option Value :=
  match op with
  | .add => some (.int k (k.wrap (a + b)))
  | .sub => some (.int k (k.wrap (a - b)))
  | .mul => some (.int k (k.wrap (a * b)))
  | .quo => if b = 0 then none else some (.int k (k.wrap (a.tdiv b)))
  | .rem => if b = 0 then none else some (.int k (a.tmod b))
  | .eql => some (.bool (decide (a = b)))
  | .neq => some (.bool (!decide (a = b)))
  | .lss => some (.bool (decide (a < b)))
  | .leq => some (.bool (decide (a ≤ b)))
  | .gtr => some (.bool (decide (b < a)))
  | .geq => some (.bool (decide (b ≤ a)))
  | .shl | .shr => none
  | .and | .or | .xor | .andNot => bitsV op k a b

def shiftV (op : BinOp) (k : IntKind) (a b : Int) : Option Value :=
  if b < 0 then none else
  match op with
  | .shl => some (.int k (k.wrap (a * 2 ^ min b.toNat k.bits)))
  | .shr => some (.int k (a.fdiv (2 ^ min b.toNat k.bits)))
  | _ => none

def strV (op : BinOp) (x y : ByteArray) : Option Value :=
  match op with
  | .add => if ((x.size + y.size : Nat) : Int) > IntKind.i64.max then none else some (.string (x ++ y))
  | .eql => some (.bool (x.toList == y.toList))
  | .neq => some (.bool (!(x.toList == y.toList)))
  | .lss => some (.bool (Op.bytesLess x.toList y.toList))
  | .leq => some (.bool (Op.bytesLess x.toList y.toList || x.toList == y.toList))
  | .gtr => some (.bool (!(Op.bytesLess x.toList y.toList || x.toList == y.toList)))
  | .geq => some (.bool (!Op.bytesLess x.toList y.toList))
  | _ => none

/-- '==' where the type's kind decides: bools, a pointer, a slice, an interface, a function against nil. -/
def eqV (kind : Nat) (x y : Value) : Option Bool :=
  match kind, x, y with
  | 1, .bool a, .bool b => some (a == b)
  | 4, .pointer none, .pointer b => some b.isNone
  | 4, .pointer (some _), .pointer none => some false
  | 5, .slice none _ _, .slice b _ _ => some b.isNone
  | 5, .slice (some _) _ _, .slice none _ _ => some false
  | 7, .nilIface, .iface _ _ => some false
  | 7, .iface _ _, .nilIface => some false
  | 8, .nilFunc, .nilFunc => some true
  | 8, .nilFunc, .func _ _ _ => some false
  | 8, .func _ _ _, .nilFunc => some false
  | _, _, _ => none

def binV (op : BinOp) (kind : Nat) (x y : Value) : Option Value :=
  match x, y with
  | .int k a, .int k' b =>
    match op with
    | .shl | .shr => shiftV op k a b
    | _ => if k = k' then intV op k a b else none
  | .string a, .string b => strV op a b
  | x, y =>
    match op with
    | .eql => (eqV kind x y).map .bool
    | .neq => (eqV kind x y).map fun b => .bool !b
    | _ => none

def unV : UnOp → Value → Option Value
  | .neg, .int k n => some (.int k (k.wrap (0 - n)))
  | .not, .bool b => some (.bool !b)
  | .xor, .int k n => bitsV .xor k (if k.signed then -1 else k.max) n
  | _, _ => none

def closedA : Value → Bool
  | .agg cs => cs.toList.all closed1
  | v => closed1 v

/-- An operator that the tables above don't have, on values without addresses: as the model has it. -/
def BinC (P : Program) (op : BinOp) (t : TypeId) (xo yo : Operand) (x y : Value) (K : Value → Prop) : Prop :=
  closedA x = true ∧ closedA y = true ∧ ∃ v, closedA v = true ∧ (∀ w, (do eqGuard op t xo yo x y; binOp op t x y : Sem Value).run P w = .ok v w) ∧ K v

/-! ### slices -/
def boundV (x : Value) (hi : Nat) : Option Nat :=
  match x with
  | .int _ i => if 0 ≤ i ∧ i ≤ hi then some i.toNat else none
  | _ => none
def loV (e : Env) (lo : Option Operand) (hi : Nat) : Option Nat :=
  match lo with
  | some x => boundV (evO e x) hi
  | none => some 0
def hiV (e : Env) (hi : Option Operand) (cap dflt : Nat) : Option Nat :=
  match hi with
  | some x => boundV (evO e x) cap
  | none => some dflt

def sliceV (P : Program) (t : TypeId) (e : Env) (x : Value) (lo hi : Option Operand) : Option Value :=
  match x with
  | .string s =>
    if (tk P t).map (·.kind) = some 3 then
      (hiV e hi s.size s.size).bind fun m => (loV e lo m).map fun l => .string (s.extract l m)
    else none
  | .slice A len cap =>
    (tElem P t).bind fun el => (tk P el).bind fun k => (hiV e hi cap len).bind fun m => (loV e lo m).bind fun l =>
      if m ≤ cap then some (.slice (A.map fun a => ⟨a.block, a.off + l * k.size, none⟩) (m - l) (cap - l)) else none
  | _ => none

def indexAddrV (P : Program) (t : TypeId) (x i : Value) : Option Value :=
  match x, i with
  | .slice (some ⟨b, off, none⟩) len _, .int _ i =>
    (tElem P t).bind fun el => (tk P el).bind fun k =>
      if 0 ≤ i ∧ i < len then some (.pointer (some ⟨b, off + i.toNat * k.size, none⟩)) else none
  | .pointer (some ⟨b, off, none⟩), .int _ i =>
    (tArr P t).bind fun (n, el) => (tk P el).bind fun k =>
      if 0 ≤ i ∧ i < n then some (.pointer (some ⟨b, off + i.toNat * k.size, none⟩)) else none
  | _, _ => none

def partV (P : Program) (t : TypeId) (cs : List Value) (off : Nat) : Option Value :=
  (tk P t).bind fun k => if k.agg then some (.agg ((cs.drop off).take k.size).toArray) else cs[off]?

def indexV (P : Program) (t : TypeId) (x i : Value) : Option Value :=
  match x, i with
  | .string s, .int _ i => if (tk P t).map (·.kind) = some 3 then (if 0 ≤ i then s[i.toNat]? else none).map fun b => .int .u8 b.toNat else none
  | .agg cs, .int _ i => (tArr P t).bind fun (n, el) => (tk P el).bind fun k => if 0 ≤ i ∧ i < n then partV P el cs.toList (i.toNat * k.size) else none
  | _, _ => none

def fieldV (P : Program) (t : TypeId) (x : Value) (f : Nat) : Option Value :=
  match x with
  | .agg cs => (tField P t f).bind fun (off, ft) => partV P ft cs.toList off
  | _ => none

def fieldAddrV (P : Program) (t : TypeId) (x : Value) (f : Nat) : Option Value :=
  match x with
  | .pointer (some ⟨b, off, none⟩) => (tField P t f).bind fun (o, ft) => (tk P ft).map fun _ => .pointer (some ⟨b, off + o, none⟩)
  | _ => none

def extractV (x : Value) (i : Nat) : Option Value :=
  match x with
  | .tuple vs => vs.toList[i]?
  | _ => none

/-- Parts laid over cells: (first cell, cells). -/
def fillV (place : Nat → Option (Nat × Nat)) : List Value → List (Nat × Value) → Option (List Value)
  | cells, [] => some cells
  | cells, (i, v) :: rest =>
    match place i, cellsV v with
    | some (off, size), some cs => if cs.length = size ∧ off + size ≤ cells.length then fillV place (putCells cells off cs) rest else none
    | _, _ => none

def fieldPl (P : Program) (t : TypeId) (i : Nat) : Option (Nat × Nat) := (tField P t i).bind fun (o, ft) => (tk P ft).map fun k => (o, k.size)

def rep {α : Type} : Nat → List α → List α
  | 0, _ => []
  | n + 1, l => l ++ rep n l

def buildV (P : Program) (t : TypeId) (parts : List (Nat × Value)) : Option Value :=
  (tk P t).bind fun k =>
    if k.kind = 6 then if !k.fok then none else (fillV (fieldPl P t) k.zero parts).map fun cs => .agg cs.toArray
    else (tArr P t).bind fun (_, el) => (tk P el).bind fun ke => (fillV (fun i => some (i * ke.size, ke.size)) k.zero parts).map fun cs => .agg cs.toArray

/-- The cells of a slice's elements. -/
def rowV (h : Heap) (size n : Nat) : Value → Option (List Value)
  | .slice (some ⟨b, off, none⟩) _ _ => if n = 0 then some [] else cellsAt h b off (n * size)
  | .slice none _ _ => some []
  | .string s => if size = 1 then some ((s.extract 0 n).data.toList.map fun b => .int .u8 b.toNat) else none
  | _ => none

def lenV : Value → Option Nat
  | .slice _ n _ => some n
  | .string s => some s.size
  | _ => none

def killB (h : Heap) (b : Nat) : Heap :=
  match getB h b with
  | some k => if !k.ex then h.set b none else h
  | none => h

/-- append: what it does to the heap, and the slice. -/
def appendV (P : Program) (t : TypeId) (s x : Value) (h : Heap) : Option (Value × Heap) :=
  (tElem P t).bind fun el => (tk P el).bind fun k =>
    match s with
    | .slice A len cap =>
      (lenV x).bind fun n => (rowV h k.size n x).bind fun new =>
        if len + n ≤ cap then
          match A with
          | some ⟨b, off, none⟩ => if n = 0 then some (s, h) else (writeB h b (off + len * k.size) new).map fun h' => (.slice A (len + n) cap, h')
          | some _ => none
          | none => if n = 0 then some (s, h) else none
        else if (len + n) * k.bytes ≤ 140737488355328 then
          match A with
          | some ⟨b, off, none⟩ =>
            (getB h b).bind fun blk =>
              if !blk.ro && decide (off + cap * k.size = blk.cells.length) && decide (len ≤ cap) && decide (blk.ty = el) then
                (rowV h k.size len s).map fun old =>
                  (.slice (some ⟨h.length, 0, none⟩) (len + n) (len + n), killB h b ++ [some ⟨old ++ new, el, false, false⟩])
              else none
          | some _ => none
          | none => if len = 0 then some (.slice (some ⟨h.length, 0, none⟩) n n, h ++ [some ⟨new, el, false, false⟩]) else none
        else none
    | _ => none

def copyV (P : Program) (t : TypeId) (d s : Value) (h : Heap) : Option (Value × Heap) :=
  (tElem P t).bind fun el => (tk P el).bind fun k =>
    match d with
    | .slice A len _ => (lenV s).bind fun n => (rowV h k.size (min n len) s).bind fun new =>
        match A with
        | some ⟨b, off, none⟩ => if min n len = 0 then some (.int .i64 0, h) else (writeB h b off new).map fun h' => (.int .i64 (min n len : Nat), h')
        | some _ => none
        | none => if min n len = 0 then some (.int .i64 0, h) else none
    | _ => none

def makeSliceV (P : Program) (t : TypeId) (l c : Value) (h : Heap) : Option (Value × Heap) :=
  match l, c with
  | .int _ l, .int _ c =>
    (tElem P t).bind fun el => (tk P el).bind fun k =>
      if 0 ≤ l ∧ l ≤ c ∧ c * k.bytes ≤ 140737488355328 then
        some (.slice (some ⟨h.length, 0, none⟩) l.toNat c.toNat, h ++ [some ⟨rep c.toNat k.zero, el, false, true⟩])
      else none
  | _, _ => none

def buildSliceV (P : Program) (t : TypeId) (n : Nat) (parts : List (Nat × Value)) (h : Heap) : Option (Value × Heap) :=
  (tElem P t).bind fun el => (tk P el).bind fun k =>
    if n * k.size ≤ 2 ^ 24 then
      (fillV (fun i => some (i * k.size, k.size)) (rep n k.zero) parts).map fun cs =>
        (.slice (some ⟨h.length, 0, none⟩) n n, h ++ [some ⟨cs, el, false, true⟩])
    else none

def max2V : Value → Value → Option Value
  | .int k x, .int _ y => some (.int k (if y > x then y else x))
  | _, _ => none
def min2V : Value → Value → Option Value
  | .int k x, .int _ y => some (.int k (if y < x then y else x))
  | _, _ => none
def foldV (f : Value → Value → Option Value) : Value → List Value → Option Value
  | x, [] => some x
  | x, y :: l => (f x y).bind fun z => foldV f z l
def maxV : List Value → Option Value
  | .int k x :: rest => foldV max2V (.int k x) rest
  | _ => none
def minV : List Value → Option Value
  | .int k x :: rest => foldV min2V (.int k x) rest
  | _ => none

def nilCheckV : Value → Option Value
  | .pointer (some a) => some (.pointer (some a))
  | .func (.func f) a b => some (.func (.func f) a b)
  | _ => none

def bytesV : List Value → Option (List UInt8)
  | [] => some []
  | .int .u8 n :: l => (bytesV l).map (UInt8.ofNat n.toNat :: ·)
  | _ => none

def convV (P : Program) (s t : TypeId) (x : Value) (h : Heap) : Option (Value × Heap) :=
  match x with
  | .int _ n => (tk P s).bind fun _ => (tInt P t).map fun k => (.int k (k.wrap n), h)
  | .string b =>
    if (tk P s).map (·.kind) = some 3 ∧ (tk P t).map (·.kind) = some 3 then some (.string b, h)
    else (tElem P t).bind fun el =>
      if (tk P s).map (·.kind) = some 3 ∧ tInt P el = some .u8 ∧ (tk P el).map (·.size) = some 1 then
        some (.slice (some ⟨h.length, 0, none⟩) b.size b.size, h ++ [some ⟨b.data.toList.map fun c => Value.int .u8 c.toNat, el, false, false⟩])
      else none
  | .slice A len _ =>
    (tElem P s).bind fun el =>
      if tInt P el = some .u8 ∧ (tk P el).map (·.size) = some 1 ∧ (tk P t).map (·.kind) = some 3 then
        (rowV h 1 len (.slice A len len)).bind fun cs =>
          (bytesV cs).map fun bs => (.string ⟨bs.toArray⟩, h)
      else none
  | _ => none

/-! ### calls -/
/-- What the package-level variables hold while the calls run. -/
class Laid (P : Program) where
  G : World → Prop

/-- What the machine owes: the heap as told, in blocks from B0 on (or, where nothing is written, below). -/
structure Rel (P : Program) [Laid P] (B0 : Nat) (ι : List Place) (h : Heap) (w : World) : Prop where
  len : ι.length = h.length
  base : B0 ≤ w.heap.size
  glob : ∀ w', Below B0 w w' → Laid.G P w'
  blk : ∀ b k p, getB h b = some k → ι[b]? = some p → ∃ (arr : Array Value) (fz : Nat × Nat), w.heap[p.blk]? = some (.cells arr k.ty fz) ∧
    (∀ i v, k.cells[i]? = some v → ∃ u, arr[p.base + i]? = some u ∧ FR ι v u) ∧
    (k.ro = true → p.blk < B0) ∧
    (k.ro = false → B0 ≤ p.blk ∧ (∀ i, i < arr.size → ¬ (fz.1 ≤ i ∧ i < fz.2)) ∧ (∃ tk', tk P k.ty = some tk' ∧ arr.size = p.base + k.cells.length + p.slack * tk'.size) ∧ (k.ex = true → p.slack = 0))
  inj : ∀ b b' k k' p p', getB h b = some k → getB h b' = some k' → ι[b]? = some p → ι[b']? = some p' → k.ro = false → k'.ro = false → p.blk = p'.blk → b = b'

def CallsV (P : Program) [Laid P] (f : FuncId) (args : List Value) (h : Heap) (Q : Value → Heap → Prop) : Prop :=
  ∀ (B0 : Nat) (ι : List Place) (w : World) (us : List Value), Rel P B0 ι h w → L2 (VR ι) args us →
    Calls P f us.toArray w fun e w' => ∃ v u h' ι', e = .returned u ∧ Q v h' ∧ VR ι' v u ∧ Rel P B0 ι' h' w' ∧ ι <+: ι' ∧ Below B0 w w'

/-- A function without a body, on plain values. -/
def PureCall (P : Program) (f : FuncId) (args : List Value) (v : Value) : Prop :=
  args.all closed1 = true ∧ (match v with | .tuple vs => vs.toList.all closed1 | v => closed1 v) = true ∧ ∀ w, (callFunc f args.toArray).run P w = .ok (.value v) w

def hasBody (P : Program) (f : FuncId) : Bool := match P.funcs[f]? with | some fn => fn.body.isSome && fn.name != "runtime.NumGoroutine" | none => false

def CallV (P : Program) [Laid P] (f : FuncId) (args : List Value) (h : Heap) (K : Value → Heap → Prop) : Prop :=
  (hasBody P f = true ∧ CallsV P f args h K) ∨ ∃ v, PureCall P f args v ∧ K v h

def callDyn (P : Program) [Laid P] (g : Value) (args : List Value) (h : Heap) (K : Value → Heap → Prop) : Prop :=
  match g with
  | .func (.func f) first captured => CallV P f (first.toList ++ args ++ captured.toList) h K
  | _ => False

def builtinV (P : Program) (b : Builtin) (ts : Array TypeId) (args : List Value) (h : Heap) (K : Value → Heap → Prop) : Prop :=
  match b, ts.toList, args with
  | .len, [t], [.slice _ n _] => (tElem P t).isSome = true ∧ K (.int .i64 n) h
  | .len, [t], [.string s] => (tk P t).map (·.kind) = some 3 ∧ K (.int .i64 s.size) h
  | .append, [t, t2], [s, x] => ((tk P t2).map (·.kind) = some 5 ∨ (tk P t2).map (·.kind) = some 3) ∧ match appendV P t s x h with | some (v, h') => K v h' | none => False
  | .copy, [t, _], [d, s] => match copyV P t d s h with | some (v, h') => K v h' | none => False
  | .max, _, l => match maxV l with | some v => K v h | none => False
  | .min, _, l => match minV l with | some v => K v h | none => False
  | _, _, _ => False

/-- May a function value hold it? -/
def capOk : Value → Bool
  | .agg _ | .tuple _ | .float _ _ | .func _ _ _ => false
  | _ => true

def optK (o : Option Value) (h : Heap) (K : Value → Heap → Prop) : Prop := match o with | some v => K v h | none => False
def optH (o : Option (Value × Heap)) (K : Value → Heap → Prop) : Prop := match o with | some (v, h) => K v h | none => False

def opV (P : Program) [Laid P] (op : Op) (e : Env) (h : Heap) (K : Value → Heap → Prop) : Prop :=
  match op with
  | .move x | .assign x => K (evO e x) h
  | .pick c a b => match evO e c with | .bool true => K (evO e a) h | .bool false => K (evO e b) h | _ => False
  | .alloc t => match tk P t with | some k => K (.pointer (some ⟨h.length, 0, none⟩)) (h ++ [some ⟨k.zero, t, false, true⟩]) | none => False
  | .box t x => match tk P t, cellsV (evO e x) with | some k, some cs => cs.length = k.size ∧ K (.pointer (some ⟨h.length, 0, none⟩)) (h ++ [some ⟨cs, t, false, true⟩]) | _, _ => False
  | .build t ps => optK (buildV P t (ps.toList.map fun (i, x) => (i, evO e x))) h K
  | .buildSlice t n ps => optH (buildSliceV P t n (ps.toList.map fun (i, x) => (i, evO e x)) h) K
  | .load t a => optK (loadV P t (evO e a) h) h K
  | .store t a x => match storeV P t (evO e a) (evO e x) h with | some h' => K UN h' | none => False
  | .nilCheck x => optK (nilCheckV (evO e x)) h K
  | .binOp op t x y _ => match binV op (((tk P t).map (·.kind)).getD 0) (evO e x) (evO e y) with
    | some v => K v h
    | none => BinC P op t x y (evO e x) (evO e y) fun v => K v h
  | .unOp op _ x => optK (unV op (evO e x)) h K
  | .convert s t x => optH (convV P s t (evO e x) h) K
  | .makeFunc fn first captured => (first.toList.all (fun x => capOk (evO e x)) && captured.toList.all fun x => capOk (evO e x)) = true ∧ K (.func fn (first.toList.map (evO e)).toArray (captured.toList.map (evO e)).toArray) h
  | .makeSlice t l c => optH (makeSliceV P t (evO e l) (evO e c) h) K
  | .slice t x lo hi mx => match mx with | none => optK (sliceV P t e (evO e x) lo hi) h K | some _ => False
  | .fieldAddr t x f => optK (fieldAddrV P t (evO e x) f) h K
  | .field t x f => optK (fieldV P t (evO e x) f) h K
  | .indexAddr t x i => optK (indexAddrV P t (evO e x) (evO e i)) h K
  | .index t x i => optK (indexV P t (evO e x) (evO e i)) h K
  | .extract t i => optK (extractV (evO e t) i) h K
  | .call c => match c.callee with
    | .builtin b => builtinV P b c.argTypes (c.args.toList.map (evO e)) h K
    | .value f => callDyn P (evO e f) (c.args.toList.map (evO e)) h K
    | .invoke _ _ => False
  | _ => False

/-! ### code -/
inductive VX where
  | norm
  | exit (id : Nat)
  | ret

/-- Is an operation carried out? -/
def guardV (all : Array Oper) (o : Oper) (e : Env) : Option Bool :=
  match o.guard with
  | none => some true
  | some (j, want) =>
    match (all[j]?).bind (·.dst) with
    | some t => match e t with
      | .bool b => some (b == want)
      | .float _ _ => some false
      | _ => none
    | none => none

def opsV (P : Program) [Laid P] (all : Array Oper) : List Oper → Env → Heap → (Env → Heap → Prop) → Prop
  | [], e, h, K => K e h
  | o :: os, e, h, K =>
    match guardV all o e with
    | some true => opV P o.op e h fun v h' => opsV P all os (putV e o.dst v) h' K
    | some false => opsV P all os (putV e o.dst SK) h K
    | none => False

/-- Does it make, write or call? (a conversion to what is no whole number counts) -/
def effectful (P : Program) : Op → Bool
  | .alloc _ | .box _ _ | .buildSlice _ _ _ | .store _ _ _ | .makeSlice _ _ _ => true
  | .convert _ t _ => (tInt P t).isNone
  | .call c => match c.callee with | .builtin b => b == .append || b == .copy | _ => true
  | _ => false

/-- A load's value, held: the type, the address, the value. -/
abbrev Held := List (TypeId × Value × Value)

def heldOk (P : Program) (hs : Held) (h : Heap) : Prop := ∀ x ∈ hs, loadV P x.1 x.2.1 h = some x.2.2

/-- The operations of a region that draws, in one order that stands for all: what was loaded stays as it is. -/
def opsE (P : Program) [Laid P] (all : Array Oper) : List Oper → Env → Heap → Held → (Env → Heap → Held → Prop) → Prop
  | [], e, h, held, K => K e h held
  | o :: os, e, h, held, K =>
    match guardV all o e with
    | some true =>
      match o.op with
      | .load t a => match loadV P t (evO e a) h with
        | some v => opsE P all os (putV e o.dst v) h ((t, evO e a, v) :: held) K
        | none => False
      | op => opV P op e h fun v h' =>
          if effectful P op then heldOk P held h' ∧ opsE P all os (putV e o.dst v) h' held K
          else opsE P all os (putV e o.dst v) h' held K
    | some false => opsE P all os (putV e o.dst SK) h held K
    | none => False
@[reducible] def opsD (P : Program) [Laid P] (all : Array Oper) (os : List Oper) (e : Env) (h : Heap) (held : Held) (K : Env → Heap → Prop) : Prop := opsE P all os e h held fun e h _ => K e h

/-- The edges that bind in every mode. -/
def bnd (o : Oper) : List Go.Edge := o.after.toList.filter (Region.binds .any)

/-- Which operations come before each, told in bits. -/
def masks : List Nat → List Oper → List Nat
  | acc, [] => acc
  | acc, o :: os => masks (acc ++ [(bnd o).foldl (fun s x => s ||| 2 ^ x.on ||| acc.getD x.on 0) 0]) os

def slotOf : Operand → List Nat | .tmp t => [t] | _ => []
/-- The slots that an operation looks at, its guard's among them. -/
def looks (ops : Array Oper) (o : Oper) : List Nat :=
  o.op.operands.toList.flatMap slotOf ++ (match o.guard with | some (j, _) => ((ops[j]?).bind (·.dst)).toList | none => [])

/-- The slots of two operations are apart. -/
def apartO (ops : Array Oper) (x y : Oper) : Bool :=
  (match x.dst with | some d => !(looks ops y).contains d && y.dst != some d | none => true) &&
  (match y.dst with | some d => !(looks ops x).contains d | none => true)

/-- x stands before y in the order: x must come before y, or x only reckons or reads, and the two may change places. -/
def pairOk (P : Program) (ops : Array Oper) (ms : List Nat) (x y : Nat) : Bool :=
  !(ms.getD x 0).testBit y && ((ms.getD y 0).testBit x ||
    match ops[x]?, ops[y]? with
    | some ox, some oy => !effectful P ox.op && apartO ops ox oy
    | _, _ => false)

def pairsOk (P : Program) (ops : Array Oper) (ms : List Nat) : List Nat → Bool
  | [] => true
  | x :: l => l.all (pairOk P ops ms x) && pairsOk P ops ms l

def nodupB : List Nat → Bool
  | [] => true
  | x :: l => !l.contains x && nodupB l

/-- May it come next? -/
def readyB (ms : List Nat) (rem : List Nat) (i : Nat) : Bool := rem.all fun y => !(ms.getD i 0).testBit y
/-- What only reckons or reads and may come next, one after the other. -/
def greedy (P : Program) (ops : Array Oper) (ms : List Nat) : Nat → List Nat → List Nat
  | 0, _ => []
  | n + 1, rem => match rem.find? (fun i => (match ops[i]? with | some o => !effectful P o.op | none => false) && readyB ms rem i) with
    | some i => i :: greedy P ops ms n (rem.filter (· != i))
    | none => []
/-- Behind an operation: what stands ahead of the rest, and the rest. -/
def aheadOf (P : Program) (ops : Array Oper) (ms : List Nat) (rem : List Nat) (i : Nat) : List Nat := greedy P ops ms rem.length (rem.filter (· != i))
def restOf (P : Program) (ops : Array Oper) (ms : List Nat) (rem : List Nat) (i : Nat) : List Nat := (rem.filter (· != i)).filter fun j => !(aheadOf P ops ms rem i).contains j
/-- May these stand ahead of the rest? -/
def nextOk (P : Program) (ops : Array Oper) (ms : List Nat) (rem pl rest : List Nat) : Bool :=
  pl.all (fun j => rem.contains j) && nodupB pl && pairsOk P ops ms pl && pl.all fun x => rest.all fun y => pairOk P ops ms x y
def treeOk (P : Program) (ops : Array Oper) (ms : List Nat) : Nat → List Nat → Bool
  | 0, rem => rem.isEmpty
  | n + 1, rem => rem.all fun i => !readyB ms rem i || (nextOk P ops ms (rem.filter (· != i)) (aheadOf P ops ms rem i) (restOf P ops ms rem i) && treeOk P ops ms n (restOf P ops ms rem i))
/-- Does everything that has been done come before it in any case? -/
def cutB (n : Nat) (ms rem : List Nat) (i : Nat) : Bool := (List.range n).all fun j => rem.contains j || (ms.getD i 0).testBit j
/-- What was read so far may be forgotten, but for loads of these types: those that might come behind it. -/
def cutOk (all : Array Oper) (ms rem : List Nat) (i : Nat) : Option (List TypeId) → Bool
  | none => true
  | some T => (List.range all.size).all fun j => rem.contains j || (ms.getD i 0).testBit j || (match all[j]? with | some o => (match o.op with | .load t _ => T.contains t | _ => true) | none => true)
def heldCut : Option (List TypeId) → Held → Held
  | none, hs => hs
  | some T, hs => hs.filter fun x => T.contains x.1
/-- All orders of the last operations: any that may come next, then those that may stand ahead of what is left. -/
def tailK (P : Program) [Laid P] (all : Array Oper) (ms : List Nat) (K : Env → Heap → Prop) : Nat → List Nat → Env → Heap → Held → Prop
  | 0, _, e, h, _ => K e h
  | n + 1, rem, e, h, held => (rem = [] → K e h) ∧ ∀ i ∈ rem, readyB ms rem i = true → ∃ o : Oper, all[i]? = some o ∧ ∃ c, cutOk all ms rem i c = true ∧ opsE P all (o :: (aheadOf P all ms rem i).filterMap (all[·]?)) e h (heldCut c held) fun e h held => tailK P all ms K n (restOf P all ms rem i) e h held

/-- May this order stand for all? -/
def drawOk (P : Program) (ops : Array Oper) (order : List Nat) : Bool :=
  P.follows .mixedOrders && decide (order.length = ops.size) &&
  (ops.toList.zipIdx.all fun (o, j) => (bnd o).all fun x => decide (x.on < j)) &&
  (List.range ops.size).all (fun i => order.contains i) && order.all (fun i => decide (i < ops.size)) && nodupB order &&
  pairsOk P ops (masks [] ops.toList) order

/-- May these stand ahead, and the others behind in any order? -/
def drawOk2 (P : Program) (ops : Array Oper) (pre tail : List Nat) : Bool :=
  P.follows .mixedOrders && decide ((pre ++ tail).length = ops.size) &&
  (ops.toList.zipIdx.all fun (o, j) => (bnd o).all fun x => decide (x.on < j)) &&
  (List.range ops.size).all (fun i => (pre ++ tail).contains i) && (pre ++ tail).all (fun i => decide (i < ops.size)) && nodupB (pre ++ tail) &&
  pairsOk P ops (masks [] ops.toList) pre && pre.all (fun x => tail.all fun y => pairOk P ops (masks [] ops.toList) x y) && treeOk P ops (masks [] ops.toList) tail.length tail
def drawV (P : Program) [Laid P] (ops : Array Oper) (e : Env) (h : Heap) (K : Env → Heap → Prop) : Prop :=
  (∃ order : List Nat, drawOk P ops order = true ∧ opsD P ops (order.filterMap (ops[·]?)) e h [] K) ∨
  ∃ pre tail : List Nat, drawOk2 P ops pre tail = true ∧ opsE P ops (pre.filterMap (ops[·]?)) e h [] fun e h held => tailK P ops (masks [] ops.toList) K tail.length tail e h held

def exitV (Q : VX → Env → Heap → Prop) (id : Nat) : VX → Env → Heap → Prop
  | .exit i, e, h => if i = id then Q .norm e h else Q (.exit i) e h
  | x, e, h => Q x e h

def seqV (next : Env → Heap → Prop) (Q : VX → Env → Heap → Prop) : VX → Env → Heap → Prop
  | .norm, e, h => next e h
  | x, e, h => Q x e h

/-- n rounds at most. -/
def iterV (body : Env → Heap → (VX → Env → Heap → Prop) → Prop) (Q : VX → Env → Heap → Prop) : Nat → Env → Heap → Prop
  | 0, _, _ => False
  | n + 1, e, h => body e h (seqV (iterV body Q n) Q)

def wpV (P : Program) [Laid P] : Code → Env → Heap → (VX → Env → Heap → Prop) → Prop
  | .skip, e, h, Q => Q .norm e h
  | .region _ ops false, e, h, Q => opsV P ops ops.toList e h (Q .norm)
  | .region _ ops true, e, h, Q => drawV P ops e h (Q .norm)
  | .seq a b, e, h, Q => wpV P a e h (seqV (fun e h => wpV P b e h Q) Q)
  | .cond c a b, e, h, Q => match evO e c with | .bool true => wpV P a e h Q | .bool false => wpV P b e h Q | _ => False
  | .block id b, e, h, Q => wpV P b e h (exitV Q id)
  | .loop b, e, h, Q => ∃ n, iterV (wpV P b) Q n e h
  | .exit id, e, h, Q => Q (.exit id) e h
  | .ret, e, h, Q => Q .ret e h
  | _, _, _, _ => False

/-! ### a function -/
def resultV (P : Program) (e : Env) (h : Heap) : ResultVar → Option Value
  | .tmp t => some (e t)
  | .cell a t => loadV P t (e a) h

def resultsV (P : Program) (fn : Func) (e : Env) (h : Heap) : Option Value :=
  (fn.results.toList.mapM (resultV P e h)).bind fun vs => match vs with
    | [v] => some v
    | vs => if vs.all (fun v => match v with | .tuple vs => vs.size == 0 | _ => true) then some (.tuple vs.toArray) else none

def startEnv (args : List Value) : Env := fun t => args.getD t UN

def opOk (n : Nat) (o : Oper) : Bool :=
  (match o.dst with | some d => decide (d < n) | none => true) && (o.op.operands.toList.all fun x => match x with | .tmp t => decide (t < n) | _ => true) &&
  (match o.guard with | some _ => true | none => true)

def codeOk (n : Nat) : Code → Bool
  | .region _ ops _ => ops.toList.all (opOk n)
  | .seq a b => codeOk n a && codeOk n b
  | .cond c a b => (match c with | .tmp t => decide (t < n) | _ => true) && codeOk n a && codeOk n b
  | .block _ b | .loop b => codeOk n b
  | _ => true

def retV (P : Program) (fn : Func) (Q : Value → Heap → Prop) : VX → Env → Heap → Prop
  | .norm, e, h | .ret, e, h => match resultsV P fn e h with | some v => Q v h | none => False
  | _, _, _ => False

end Go.V
end

section
/- The layer V, part 2: lists place by place, values under a longer telling of places, plain values. -/
namespace Go.V
open Go Go.RowKit

namespace L2
variable {α β γ : Type} {R S : α → β → Prop}
theorem imp {l : List α} {m : List β} (h : ∀ a b, R a b → S a b) (hl : L2 R l m) : L2 S l m := by
  induction hl with
  | nil => exact .nil
  | cons ha _ ih => exact .cons (h _ _ ha) ih
theorem length {l : List α} {m : List β} (h : L2 R l m) : l.length = m.length := by
  induction h with
  | nil => rfl
  | cons _ _ ih => simp [ih]
theorem get {l : List α} {m : List β} (h : L2 R l m) : ∀ (i : Nat) (a : α), l[i]? = some a → ∃ b, m[i]? = some b ∧ R a b := by
  induction h with
  | nil => intro i a h; simp at h
  | cons hr _ ih =>
    intro i a hi
    cases i with
    | zero => simp at hi; subst hi; exact ⟨_, rfl, hr⟩
    | succ i => simpa using ih i a (by simpa using hi)
theorem of_get {l : List α} : ∀ {m : List β}, l.length = m.length → (∀ (i : Nat) a, l[i]? = some a → ∃ b, m[i]? = some b ∧ R a b) → L2 R l m := by
  induction l with
  | nil => intro m h _; cases m with | nil => exact .nil | cons => simp at h
  | cons a l ih =>
    intro m h hg
    cases m with
    | nil => simp at h
    | cons b m =>
      obtain ⟨b', hb, hr⟩ := hg 0 a rfl
      simp at hb; subst hb
      exact .cons hr (ih (by simpa using h) fun i a' ha => by simpa using hg (i + 1) a' (by simpa using ha))
theorem append {l l' : List α} {m m' : List β} (h : L2 R l m) (h' : L2 R l' m') : L2 R (l ++ l') (m ++ m') := by
  induction h with
  | nil => exact h'
  | cons hr _ ih => exact .cons hr ih
theorem take {l : List α} {m : List β} (h : L2 R l m) : ∀ n : Nat, L2 R (l.take n) (m.take n) := by
  induction h with
  | nil => intro n; simp; exact .nil
  | cons hr _ ih => intro n; cases n with | zero => exact .nil | succ n => exact .cons hr (ih n)
theorem drop {l : List α} {m : List β} (h : L2 R l m) : ∀ n : Nat, L2 R (l.drop n) (m.drop n) := by
  induction h with
  | nil => intro n; simp; exact .nil
  | cons hr hl ih => intro n; cases n with | zero => exact .cons hr hl | succ n => exact ih n
theorem map {δ : Type} {T : γ → δ → Prop} {f : α → γ} {g : β → δ} (hf : ∀ a b, R a b → T (f a) (g b)) {l : List α} {m : List β} (h : L2 R l m) : L2 T (l.map f) (m.map g) := by
  induction h with
  | nil => exact .nil
  | cons hr _ ih => exact .cons (hf _ _ hr) ih
theorem refl {R : α → α → Prop} {l : List α} (h : ∀ a ∈ l, R a a) : L2 R l l := by
  induction l with
  | nil => exact .nil
  | cons a l ih => exact .cons (h a (by simp)) (ih fun b hb => h b (by simp [hb]))
end L2

/-! ### a longer telling -/
theorem getElem?_pre {α : Type} {l m : List α} (h : l <+: m) {i : Nat} {a : α} (hi : l[i]? = some a) : m[i]? = some a := by
  obtain ⟨t, rfl⟩ := h
  rw [List.getElem?_append_left (by have := List.getElem?_eq_some_iff.1 hi; exact this.1)]; exact hi

theorem BR.pre {ι ι' : List Place} (h : ι <+: ι') {v u : Value} (r : BR ι v u) : BR ι' v u := by
  cases r with
  | int => exact .int _ _
  | bool => exact .bool _
  | string => exact .string _
  | nilp => exact .nilp
  | ptr h1 => exact .ptr (getElem?_pre h h1)
  | nils => exact .nils
  | slice h1 h2 => exact .slice (getElem?_pre h h1) h2
  | slice0 h1 h2 => exact .slice0 (getElem?_pre h h1) h2
  | nilI => exact .nilI
  | nilF => exact .nilF
  | tok => exact .tok _ _
theorem FR.pre {ι ι' : List Place} (h : ι <+: ι') {v u : Value} (r : FR ι v u) : FR ι' v u := by
  cases r with
  | base r => exact .base (r.pre h)
  | func fn a b => exact .func fn (a.imp fun _ _ => BR.pre h) (b.imp fun _ _ => BR.pre h)
theorem AR.pre {ι ι' : List Place} (h : ι <+: ι') {v u : Value} (r : AR ι v u) : AR ι' v u := by
  cases r with
  | junk => exact .junk _
  | skip => exact .skip
  | flat r => exact .flat (r.pre h)
  | agg r => exact .agg (r.imp fun _ _ => FR.pre h)
theorem VR.pre {ι ι' : List Place} (h : ι <+: ι') {v u : Value} (r : VR ι v u) : VR ι' v u := by
  cases r with
  | one r => exact .one (r.pre h)
  | tup r => exact .tup (r.imp fun _ _ => AR.pre h)

/-! ### values -/
theorem FR.flat {ι : List Place} {v u : Value} (r : FR ι v u) : u.cells = #[u] ∧ cellsV v = some [v] ∧ u.oneCell' = true := by
  cases r with
  | base r => cases r <;> simp [Value.cells, cellsV, Value.oneCell']
  | func => simp [Value.cells, cellsV, Value.oneCell']

theorem BR.closed {ι : List Place} {v : Value} (h : closed1 v = true) : BR ι v v := by
  cases v with
  | int => exact .int _ _
  | bool => exact .bool _
  | string => exact .string _
  | pointer a => cases a with | none => exact .nilp | some => simp [closed1] at h
  | slice a l c => cases a with
    | none => simp [closed1] at h; obtain ⟨rfl, rfl⟩ := h; exact .nils
    | some => simp [closed1] at h
  | nilIface => exact .nilI
  | nilFunc => exact .nilF
  | _ => simp [closed1] at h
theorem FR.closed {ι : List Place} {v : Value} (h : closed1 v = true) : FR ι v v := .base (.closed h)
theorem FR.closed_eq {ι : List Place} {v u : Value} (h : closed1 v = true) (r : FR ι v u) : u = v := by
  cases r with
  | base r => cases r <;> simp_all [closed1]
  | func => simp [closed1] at h
theorem L2.closed {ι : List Place} {l : List Value} (h : l.all closed1 = true) : L2 (FR ι) l l :=
  L2.refl fun a ha => .closed (by simpa using List.all_eq_true.1 h a ha)
theorem L2.closed_eq {ι : List Place} {l m : List Value} (r : L2 (FR ι) l m) (h : l.all closed1 = true) : m = l := by
  induction r with
  | nil => rfl
  | cons hr _ ih => simp at h; rw [FR.closed_eq h.1 hr, ih (by simpa using h.2)]
theorem AR.closed {ι : List Place} {v : Value} (h : closedA v = true) : AR ι v v := by
  cases v with
  | agg cs =>
    have : AR ι (.agg cs.toList.toArray) (.agg cs.toList.toArray) := .agg (L2.closed h)
    simpa using this
  | _ => exact .flat (.closed h)
theorem AR.closed_eq {ι : List Place} {v u : Value} (h : closedA v = true) (r : AR ι v u) : u = v := by
  cases r with
  | junk => simp [closedA, closed1] at h
  | skip => simp [closedA, closed1] at h
  | flat r =>
    refine FR.closed_eq ?_ r
    cases r with
    | base r => cases r <;> simpa [closedA] using h
    | func => simpa [closedA] using h
  | agg r =>
    have := L2.closed_eq r (by simpa [closedA] using h)
    rw [this]
theorem VR.closed_eq {ι : List Place} {v u : Value} (h : closedA v = true) (r : VR ι v u) : u = v := by
  cases r with
  | one r => exact r.closed_eq h
  | tup r => simp [closedA, closed1] at h
theorem VR.closed {ι : List Place} {v : Value} (h : closedA v = true) : VR ι v v := .one (.closed h)

/-- A known number, bool or string is that in the machine. -/
theorem VR.int_eq {ι : List Place} {k : IntKind} {n : Int} {u : Value} (r : VR ι (.int k n) u) : u = .int k n := r.closed_eq rfl
theorem VR.bool_eq {ι : List Place} {b : Bool} {u : Value} (r : VR ι (.bool b) u) : u = .bool b := r.closed_eq rfl
theorem VR.string_eq {ι : List Place} {s : ByteArray} {u : Value} (r : VR ι (.string s) u) : u = .string s := r.closed_eq rfl
theorem VR.tuple_inv {ι : List Place} {vs : Array Value} {u : Value} (h : vs ≠ #[]) (r : VR ι (.tuple vs) u) : ∃ us, u = .tuple us ∧ L2 (AR ι) vs.toList us.toList := by
  generalize hv : Value.tuple vs = v at r
  cases r with
  | one r =>
    cases r with
    | junk => simp at hv; exact absurd hv h
    | skip => cases hv
    | flat r => subst hv; cases r with | base r => cases r
    | agg r => cases hv
  | tup r =>
    rename_i a b
    simp at hv; subst hv
    exact ⟨b.toArray, rfl, by simpa using r⟩
theorem VR.agg_inv {ι : List Place} {cs : Array Value} {u : Value} (r : VR ι (.agg cs) u) : ∃ us, u = .agg us ∧ L2 (FR ι) cs.toList us.toList := by
  generalize hv : Value.agg cs = v at r
  cases r with
  | one r =>
    cases r with
    | junk => cases hv
    | skip => cases hv
    | flat r => subst hv; cases r with | base r => cases r
    | agg r =>
      rename_i a b
      simp at hv; subst hv
      exact ⟨b.toArray, rfl, by simpa using r⟩
  | tup r => cases hv
theorem VR.flat_inv {ι : List Place} {v u : Value} (r : VR ι v u) (h : match v with | .agg _ | .tuple _ | .float _ _ => False | _ => True) : FR ι v u := by
  cases r with
  | one r =>
    cases r with
    | junk => exact h.elim
    | skip => exact h.elim
    | flat r => exact r
    | agg r => exact h.elim
  | tup r => exact h.elim
theorem cellsV_inv {ι : List Place} {v u : Value} {cs : List Value} (r : VR ι v u) (h : cellsV v = some cs) : L2 (FR ι) cs u.cells.toList ∧ (cs.length = u.cells.size) := by
  suffices hh : L2 (FR ι) cs u.cells.toList from ⟨hh, by simpa using hh.length⟩
  cases v with
  | agg a =>
    obtain ⟨us, rfl, r'⟩ := r.agg_inv
    simp [cellsV] at h; subst h
    exact r'
  | tuple a => simp [cellsV] at h
  | float k n => simp [cellsV] at h
  | _ =>
    have r := r.flat_inv trivial
    simp [cellsV] at h; subst h
    rw [r.flat.1]
    exact .cons r .nil

/-! ### slots -/
/-- The machine's slots, and the abstract ones. -/
structure EnvR (ι : List Place) (n : Nat) (e : Env) (a : Act) : Prop where
  size : a.tmps.size = n
  defers : a.defers = []
  at_ : ∀ t, t < n → VR ι (e t) (a.tmps.getD t undef)

theorem EnvR.pre {ι ι' : List Place} {n : Nat} {e : Env} {a : Act} (h : ι <+: ι') (r : EnvR ι n e a) : EnvR ι' n e a := ⟨r.size, r.defers, fun t ht => (r.at_ t ht).pre h⟩

theorem EnvR.put {ι : List Place} {n : Nat} {e : Env} {a : Act} (r : EnvR ι n e a) {d : Option Tmp} (hd : ∀ t, d = some t → t < n) {v u : Value} (h : VR ι v u) : EnvR ι n (putV e d v) (a.put d u) := by
  cases d with
  | none => exact r
  | some t =>
    refine ⟨by simpa [Act.put] using r.size, r.defers, fun s hs => ?_⟩
    have hz := r.size
    by_cases hst : s = t
    · subst hst
      simpa [putV, upd, Act.put, hz, hs] using h
    · have := r.at_ s hs
      simpa [putV, upd, hst, Act.put, Array.getElem?_setIfInBounds, Ne.symm hst] using this

theorem closeV_VR (ι : List Place) (v : Value) : VR ι (closeV v) v := by
  unfold closeV
  split
  · rename_i h
    exact .one (.flat (.closed h))
  · split
    · rename_i cs
      split
      · rename_i h; exact .closed h
      · exact .one (.junk _)
    · exact .one (.junk _)

theorem EnvR.eval {ι : List Place} {n : Nat} {e : Env} {a : Act} (r : EnvR ι n e a) {x : Operand} (hx : ∀ t, x = .tmp t → t < n) : VR ι (evO e x) (a.eval x) := by
  cases x with
  | tmp t => exact r.at_ t (hx t rfl)
  | const v => exact closeV_VR ι v
  | global g => exact .one (.junk _)
  | func f =>
    refine .one (.flat ?_)
    have : FR ι (.func (.func f) (List.toArray []) (List.toArray [])) (.func (.func f) (List.toArray []) (List.toArray [])) := .func _ .nil .nil
    exact this

end Go.V
end

section
/- The layer V, part 3: what the heap's moves mean in the machine's memory. -/
namespace Go.V
open Go Go.RowKit

theorem getB_lt {h : Heap} {b : Nat} {k : Blk} (hb : getB h b = some k) : b < h.length := by
  unfold getB at hb
  cases hh : h[b]? with
  | none => simp [hh] at hb
  | some x => exact (List.getElem?_eq_some_iff.1 hh).1

theorem getB_append_left {h g : Heap} {b : Nat} (hb : b < h.length) : getB (h ++ g) b = getB h b := by
  simp [getB, List.getElem?_append_left hb]
theorem getB_append_new {h : Heap} {k : Blk} : getB (h ++ [some k]) h.length = some k := by simp [getB]
theorem getB_append_cases {h : Heap} {x k : Blk} {b : Nat} (hb : getB (h ++ [some x]) b = some k) : (b < h.length ∧ getB h b = some k) ∨ (b = h.length ∧ k = x) := by
  have hl := getB_lt hb
  simp at hl
  rcases Nat.lt_or_ge b h.length with hlt | hge
  · exact .inl ⟨hlt, by rwa [getB_append_left hlt] at hb⟩
  · have : b = h.length := by omega
    subst this
    rw [getB_append_new] at hb
    exact .inr ⟨rfl, by simpa using hb.symm⟩
theorem getB_set {h : Heap} {b c : Nat} {x : Option Blk} (hb : b < h.length) : getB (h.set b x) c = if c = b then x else getB h c := by
  unfold getB
  by_cases hc : c = b
  · subst hc; simp [hb]
  · simp [hc, List.getElem?_set, Ne.symm hc]

theorem addr_add (b o j : Nat) : (⟨b, o, none⟩ : Addr).add j = ⟨b, o + j, none⟩ := by
  unfold Addr.add
  split
  · rename_i h; subst h; rfl
  · rfl

variable {P : Program} [Laid P] {B0 : Nat} {ι : List Place} {h : Heap} {w : World}

theorem Rel.place (r : Rel P B0 ι h w) {b : Nat} (hb : b < h.length) : ∃ p, ι[b]? = some p := ⟨_, List.getElem?_eq_getElem (by rw [r.len]; exact hb)⟩

/-- Cells in a row, as the machine has them. -/
theorem Rel.cells (r : Rel P B0 ι h w) {b off n : Nat} {cs : List Value} {p : Place} (hc : cellsAt h b off n = some cs) (hp : ι[b]? = some p) :
    ∃ us : List Value, L2 (FR ι) cs us ∧ cs.length = n ∧ ∀ j v, us[j]? = some v → w.cell? ((⟨p.blk, p.base + off, none⟩ : Addr).add j) = some v := by
  unfold cellsAt at hc
  cases hk : getB h b with
  | none => simp [hk] at hc
  | some k =>
    simp only [hk] at hc
    split at hc
    · rename_i hle
      simp only [Option.some.injEq] at hc
      obtain ⟨arr, fz, hh, hcell, _, _⟩ := r.blk b k p hk hp
      have hlen : cs.length = n := by rw [← hc]; simp; omega
      have hat : ∀ j v, cs[j]? = some v → ∃ u, arr[p.base + (off + j)]? = some u ∧ FR ι v u := by
        intro j v hj
        refine hcell (off + j) v ?_
        rw [← hc] at hj
        rw [List.getElem?_take] at hj
        split at hj
        · simpa [List.getElem?_drop] using hj
        · simp at hj
      have hsz : n = 0 ∨ p.base + off + n ≤ arr.size := by
        by_cases hn : n = 0
        · exact .inl hn
        · obtain ⟨u, hu, _⟩ := hat (n - 1) _ (List.getElem?_eq_getElem (by omega))
          have := (Array.getElem?_eq_some_iff.1 hu).1
          exact .inr (by omega)
      refine ⟨(arr.toList.drop (p.base + off)).take n, L2.of_get (by simp; omega) (fun i a ha => ?_), hlen, fun j v hj => ?_⟩
      · obtain ⟨u, hu, hr⟩ := hat i a ha
        refine ⟨u, ?_, hr⟩
        have hi : i < n := by have := (List.getElem?_eq_some_iff.1 ha).1; omega
        rw [List.getElem?_take, if_pos hi, List.getElem?_drop, Array.getElem?_toList]
        rw [← hu]; congr 1; omega
      · rw [addr_add, World.cell?, hh]
        simp only [Option.isSome_none, Bool.false_eq_true, if_false]
        rw [List.getElem?_take] at hj
        split at hj
        · rw [List.getElem?_drop, Array.getElem?_toList] at hj
          exact hj
        · simp at hj
    · simp at hc

/-- One cell. -/
theorem Rel.cell (r : Rel P B0 ι h w) {b off : Nat} {k : Blk} {v : Value} {p : Place} (hk : getB h b = some k) (hc : k.cells[off]? = some v) (hp : ι[b]? = some p) :
    ∃ u, w.cell? ⟨p.blk, p.base + off, none⟩ = some u ∧ FR ι v u := by
  obtain ⟨arr, fz, hh, hcell, _, _⟩ := r.blk b k p hk hp
  obtain ⟨u, hu, hr⟩ := hcell off v hc
  exact ⟨u, by rw [World.cell?, hh]; simpa using hu, hr⟩

theorem Below.of_alloc {B0 : Nat} {w : World} (hB : B0 ≤ w.heap.size) (o : Obj) : Below B0 w (w.alloc o) := (Below.refl B0 w).alloc hB o

/-- A new block. -/
theorem Rel.new (r : Rel P B0 ι h w) {cs us : List Value} {t : TypeId} {k : TK} {ex : Bool} (hk : tk P t = some k) (hl : L2 (FR ι) cs us) :
    Rel P B0 (ι ++ [⟨w.heap.size, 0, 0⟩]) (h ++ [some ⟨cs, t, false, ex⟩]) (w.alloc (.cells us.toArray t)) := by
  have hpre : ι <+: ι ++ [(⟨w.heap.size, 0, 0⟩ : Place)] := List.prefix_append _ _
  have hold : ∀ b p, b < h.length → (ι ++ [(⟨w.heap.size, 0, 0⟩ : Place)])[b]? = some p → ι[b]? = some p := by
    intro b p hb hp
    rwa [List.getElem?_append_left (by rw [r.len]; exact hb)] at hp
  have hnew : ∀ p, (ι ++ [(⟨w.heap.size, 0, 0⟩ : Place)])[h.length]? = some p → p = ⟨w.heap.size, 0, 0⟩ := by
    intro p hp
    rw [← r.len] at hp
    simpa using hp.symm
  have hlt : ∀ b k p, getB h b = some k → ι[b]? = some p → p.blk < w.heap.size := by
    intro b k p hb hp
    obtain ⟨arr, fz, hh, _⟩ := r.blk b k p hb hp
    exact (Array.getElem?_eq_some_iff.1 hh).1
  refine ⟨by simp [r.len], by have := r.base; simp; omega, fun w2 hB => r.glob w2 ((Below.of_alloc r.base _).trans hB), ?_, ?_⟩
  · intro b kb p hb hp
    rcases getB_append_cases hb with ⟨hb1, hb2⟩ | ⟨rfl, rfl⟩
    · have hp := hold b p hb1 hp
      obtain ⟨arr, fz, hh, h1, h2, h3⟩ := r.blk b kb p hb2 hp
      refine ⟨arr, fz, ?_, fun i v hv => ?_, h2, h3⟩
      · rw [Below.heap_alloc _ _ _ (Array.getElem?_eq_some_iff.1 hh).1]; exact hh
      · obtain ⟨u, hu, hr⟩ := h1 i v hv; exact ⟨u, hu, hr.pre hpre⟩
    · have := hnew p hp
      subst this
      refine ⟨us.toArray, (0, 0), heap_alloc_new _ _, fun i v hv => ?_, by simp, fun _ => ⟨r.base, fun i _ => by simp, ⟨k, hk, by simp [hl.length]⟩, fun _ => rfl⟩⟩
      obtain ⟨u, hu, hr⟩ := hl.get i v hv
      exact ⟨u, by simpa using hu, hr.pre hpre⟩
  · intro b b' kb kb' p p' hb hb' hp hp' hro hro' he
    rcases getB_append_cases hb with ⟨hb1, hb2⟩ | ⟨rfl, rfl⟩ <;> rcases getB_append_cases hb' with ⟨hb1', hb2'⟩ | ⟨rfl, rfl⟩
    · exact r.inj b b' kb kb' p p' hb2 hb2' (hold b p hb1 hp) (hold b' p' hb1' hp') hro hro' he
    · have := hlt b kb p hb2 (hold b p hb1 hp)
      rw [hnew p' hp'] at he; simp at he; omega
    · have := hlt b' kb' p' hb2' (hold b' p' hb1' hp')
      rw [hnew p hp] at he; simp at he; omega
    · rfl

theorem Rel.drew (r : Rel P B0 ι h w) : Rel P B0 ι h w.drew := ⟨r.len, r.base, fun w2 hB => r.glob w2 (((Below.refl B0 w).drew).trans hB), r.blk, r.inj⟩

/-- Stores in a row. -/
theorem run_storeCells_row (g o : Nat) (ty : TypeId) (fz : Nat × Nat) : ∀ (vs : List Value) (i : Nat) (w : World) (arr : Array Value), w.heap[g]? = some (.cells arr ty fz) → o + i + vs.length ≤ arr.size →
    (∀ j, j < arr.size → ¬ (fz.1 ≤ j ∧ j < fz.2)) → (∀ v ∈ vs, v.oneCell' = true) →
    ∃ (w' : World) (arr' : Array Value), (storeCells ⟨g, o, none⟩ vs i).run P w = .ok () w' ∧ w'.heap[g]? = some (.cells arr' ty fz) ∧ arr'.size = arr.size ∧
      (∀ j, j < o + i ∨ o + i + vs.length ≤ j → arr'[j]? = arr[j]?) ∧ (∀ j v, vs[j]? = some v → arr'[o + i + j]? = some v) ∧
      (∀ k, k ≠ g → w'.heap[k]? = w.heap[k]?) ∧ w'.heap.size = w.heap.size ∧ w'.os = w.os ∧ w'.tape = w.tape ∧ w'.output = w.output := by
  intro vs
  induction vs with
  | nil => intro i w arr hg _ _ _; exact ⟨w, arr, rfl, hg, rfl, fun _ _ => rfl, fun j v hv => by simp at hv, fun _ _ => rfl, rfl, rfl, rfl, rfl⟩
  | cons v vs ih =>
    intro i w arr hg hl hf h1
    simp only [List.length_cons] at hl
    have hlt : o + i < arr.size := by omega
    have hc : w.cell? ⟨g, o + i, none⟩ = some arr[o + i] := by rw [World.cell?, hg]; simp [hlt]
    have hfr : w.frozen? ⟨g, o + i, none⟩ = false := by
      rw [World.frozen?, hg]
      have := hf (o + i) hlt
      simp only []
      rw [Bool.and_eq_false_iff]
      by_cases h : fz.1 ≤ o + i
      · right; simpa using fun hh => this ⟨h, hh⟩
      · left; simpa using h
    have hst : (store (⟨g, o + i, none⟩ : Addr) v).run P w = .ok () (w.setCell ⟨g, o + i, none⟩ v) := by
      rw [run_store P w _ v .plain (h1 v (by simp)), hc]; simp [hfr]
    have hg1 : (w.setCell ⟨g, o + i, none⟩ v).heap[g]? = some (.cells (arr.setIfInBounds (o + i) v) ty fz) := by
      simp [World.setCell, Array.getElem?_modify, hg]
    obtain ⟨w', arr', hr, hg', hsz, hout, hin, hoth, hws, ho, ht, hp⟩ := ih (i + 1) (w.setCell ⟨g, o + i, none⟩ v) (arr.setIfInBounds (o + i) v) hg1 (by simp; omega) (by simpa using hf) (fun x hx => h1 x (by simp [hx]))
    refine ⟨w', arr', ?_, hg', by simpa using hsz, fun j hj => ?_, fun j x hx => ?_, fun k hk => ?_, by simpa using hws, ho, ht, hp⟩
    · simp only [storeCells, addr_add, Sem.run_bind, hst, Result.andThen_ok]
      exact hr
    · simp only [List.length_cons] at hj
      rw [hout j (by omega)]
      rw [Array.getElem?_setIfInBounds, if_neg (by omega)]
    · cases j with
      | zero =>
        simp at hx; subst hx
        rw [hout (o + i + 0) (by omega)]
        simp [hlt]
      | succ j =>
        have := hin j x (by simpa using hx)
        rw [← this]; congr 1; omega
    · rw [hoth k hk, Below.heap_setCell _ _ _ _ hk]

theorem writeB_inv {h h' : Heap} {b off : Nat} {cs : List Value} (hw : writeB h b off cs = some h') :
    ∃ k, getB h b = some k ∧ k.ro = false ∧ off + cs.length ≤ k.cells.length ∧ h' = h.set b (some { k with cells := putCells k.cells off cs }) := by
  unfold writeB at hw
  cases hk : getB h b with
  | none => simp [hk] at hw
  | some k =>
    simp only [hk] at hw
    split at hw
    · rename_i hc
      simp at hc
      exact ⟨k, rfl, hc.1, hc.2, by simpa using hw.symm⟩
    · simp at hw

theorem putCells_length {l cs : List Value} {off : Nat} (h : off + cs.length ≤ l.length) : (putCells l off cs).length = l.length := by
  simp [putCells]; omega
theorem putCells_in {l cs : List Value} {off : Nat} (h : off + cs.length ≤ l.length) {i : Nat} (h0 : off ≤ i) (h1 : i < off + cs.length) : (putCells l off cs)[i]? = cs[i - off]? := by
  unfold putCells
  rw [List.append_assoc, List.getElem?_append_right (by simp; omega), List.getElem?_append_left (by simp; omega)]
  congr 1; simp; omega
theorem putCells_out {l cs : List Value} {off : Nat} (h : off + cs.length ≤ l.length) {i : Nat} (hi : i < off ∨ off + cs.length ≤ i) : (putCells l off cs)[i]? = l[i]? := by
  unfold putCells
  rcases hi with hi | hi
  · rw [List.append_assoc, List.getElem?_append_left (by simp; omega), List.getElem?_take, if_pos hi]
  · rw [List.getElem?_append_right (by simp; omega), List.getElem?_drop]
    congr 1; simp; omega

theorem L2.one {l m : List Value} (hl : L2 (FR ι) l m) : ∀ v ∈ m, v.oneCell' = true := by
  induction hl with
  | nil => simp
  | cons hr _ ih => intro v hv; exact (List.mem_cons.1 hv).elim (fun e => e ▸ hr.flat.2.2) (ih v)

/-- A write into a block of one's own. -/
theorem Rel.write (r : Rel P B0 ι h w) {b off : Nat} {cs us : List Value} {h' : Heap} {p : Place} (hw : writeB h b off cs = some h') (hp : ι[b]? = some p) (hl : L2 (FR ι) cs us) :
    ∃ w', (storeCells ⟨p.blk, p.base + off, none⟩ us 0).run P w = .ok () w' ∧ Rel P B0 ι h' w' ∧ Below B0 w w' := by
  obtain ⟨k, hk, hro, hle, rfl⟩ := writeB_inv hw
  obtain ⟨arr, fz, hh, hcell, _, hown⟩ := r.blk b k p hk hp
  obtain ⟨hB, hfz, ⟨tk', htk, hsz⟩, hex⟩ := hown hro
  obtain ⟨w', arr', hr, hg', hsz', hout, hin, hoth, hws, ho, ht, hpp⟩ := run_storeCells_row (P := P) p.blk (p.base + off) k.ty fz us 0 w arr hh (by rw [← hl.length]; omega) hfz (L2.one hl)
  have hbl := getB_lt hk
  have hBel : Below B0 w w' := ⟨ho, ht, hpp, by omega, fun i hi => hoth i (by omega)⟩
  refine ⟨w', hr, ⟨by simpa using r.len, by rw [hws]; exact r.base, fun w2 hB => r.glob w2 (hBel.trans hB), fun c kc pc hc hpc => ?_, ?_⟩, hBel⟩
  · rw [getB_set hbl] at hc
    by_cases hcb : c = b
    · subst hcb
      rw [if_pos rfl] at hc
      simp only [Option.some.injEq] at hc; subst hc
      rw [hp] at hpc; simp only [Option.some.injEq] at hpc; subst hpc
      refine ⟨arr', fz, hg', fun i v hv => ?_, fun h => by simp [hro] at h, fun _ => ⟨hB, by rw [hsz']; exact hfz, ⟨tk', htk, by rw [hsz', hsz]; simp only []; rw [putCells_length hle]⟩, hex⟩⟩
      simp only [] at hv
      by_cases hi : off ≤ i ∧ i < off + cs.length
      · rw [putCells_in hle hi.1 hi.2] at hv
        obtain ⟨u, hu, hru⟩ := hl.get _ _ hv
        refine ⟨u, ?_, hru⟩
        have := hin _ _ hu
        rw [← this]; congr 1; omega
      · rw [putCells_out hle (by omega)] at hv
        obtain ⟨u, hu, hru⟩ := hcell i v hv
        refine ⟨u, ?_, hru⟩
        rw [hout _ (by rw [← hl.length]; omega)]; exact hu
    · rw [if_neg hcb] at hc
      obtain ⟨arr1, fz1, hh1, h1, h2, h3⟩ := r.blk c kc pc hc hpc
      refine ⟨arr1, fz1, ?_, h1, h2, h3⟩
      rw [hoth _ ?_]; exact hh1
      intro he
      cases hcr : kc.ro with
      | true => have := h2 hcr; omega
      | false => exact hcb (r.inj c b kc k pc p hc hk hpc hp hcr hro he)
  · intro c c' kc kc' pc pc' hc hc' hpc hpc' hro1 hro2 he
    have key : ∀ d kd, getB (h.set b (some { k with cells := putCells k.cells off cs })) d = some kd → ∃ kd', getB h d = some kd' ∧ kd'.ro = kd.ro := by
      intro d kd hd
      rw [getB_set hbl] at hd
      by_cases hdb : d = b
      · rw [if_pos hdb] at hd; simp only [Option.some.injEq] at hd; subst hd; exact ⟨k, hdb ▸ hk, rfl⟩
      · rw [if_neg hdb] at hd; exact ⟨kd, hd, rfl⟩
    obtain ⟨k1, hk1, e1⟩ := key c kc hc
    obtain ⟨k2, hk2, e2⟩ := key c' kc' hc'
    exact r.inj c c' k1 k2 pc pc' hk1 hk2 hpc hpc' (e1.trans hro1) (e2.trans hro2) he


/-! ### append -/
theorem kind_not_int {t : TypeId} {n : Nat} (hk : (tk P t).map (·.kind) = some n) (hn : n ≠ 2) : ∃ d, P.underlying t = some d ∧ ∀ k, d ≠ .int k := by
  unfold tk at hk
  split at hk
  · rename_i i d hi hd
    refine ⟨d, hd, fun k hkk => ?_⟩
    subst hkk
    split at hk
    · split at hk
      · simp [kindOf] at hk; exact hn hk.symm
      · simp at hk
    · simp at hk
  · simp at hk

theorem tk_info {t : TypeId} {k : TK} (hk : tk P t = some k) : ∃ i z d, P.info? t = some i ∧ P.underlying t = some d ∧ i.zero = some z ∧ z.cells.toList = k.zero ∧ i.size = k.size ∧ i.bytes = k.bytes ∧
    k.zero.all closed1 = true ∧ k.zero.length = k.size ∧ 0 < k.size ∧ 0 < k.bytes ∧ k.kind = kindOf d ∧ k.agg = (kindOf d == 6 || kindOf d == 9) ∧ (k.fok = true → ∀ fs, d = .struct fs → ∀ f ∈ fs.toList, (P.info? f.type).isSome = true) := by
  unfold tk at hk
  split at hk
  · rename_i i d hi hd
    split at hk
    · rename_i z hz
      split at hk
      · rename_i hc
        simp only [Option.some.injEq] at hk
        subst hk
        simp at hc
        obtain ⟨⟨⟨h1, h2⟩, h3⟩, h4⟩ := hc
        refine ⟨i, z, d, hi, hd, hz, rfl, rfl, rfl, by simpa using h1, by simpa using h2, h3, h4, rfl, rfl, fun hf fs hfs f hm => ?_⟩
        subst hfs
        simp only [List.all_eq_true] at hf
        exact hf f hm
      · simp at hk
    · simp at hk
  · simp at hk

theorem tElem_some {t el : TypeId} (h : tElem P t = some el) : P.underlying t = some (.slice el) := by
  unfold tElem at h
  split at h
  · rename_i e he; simp at h; subst h; exact he
  · simp at h

theorem rep_length {α : Type} (n : Nat) (l : List α) : (rep n l).length = n * l.length := by
  induction n with
  | zero => simp [rep]
  | succ n ih => simp [rep, ih, Nat.add_mul, Nat.add_comm]
theorem rep_get {α : Type} [Inhabited α] (l : List α) : ∀ (n i : Nat), i < n * l.length → (rep n l)[i]? = some (l[i % l.length]!) := by
  intro n
  induction n with
  | zero => intro i hi; simp at hi
  | succ n ih =>
    intro i hi
    have hl : 0 < l.length := by
      rcases Nat.eq_zero_or_pos l.length with h0 | h0
      · rw [h0] at hi; simp at hi
      · exact h0
    simp only [rep]
    rcases Nat.lt_or_ge i l.length with hlt | hge
    · rw [List.getElem?_append_left hlt, Nat.mod_eq_of_lt hlt]
      simp [hlt]
    · rw [List.getElem?_append_right hge, ih (i - l.length) (by rw [Nat.add_mul] at hi; omega)]
      rw [Nat.mod_eq_sub_mod hge]

theorem closed_rep {n : Nat} {l : List Value} (h : l.all closed1 = true) : (rep n l).all closed1 = true := by
  induction n with
  | zero => rfl
  | succ n ih => simp only [rep, List.all_append, h, ih, Bool.and_self]

theorem zeroCells_rep (z : Array Value) (n : Nat) : (Builtin.zeroCells z n).toList = rep n z.toList := by
  apply List.ext_getElem?
  intro i
  unfold Builtin.zeroCells
  rcases Nat.lt_or_ge i (n * z.size) with hlt | hge
  · rw [rep_get _ _ _ (by simpa using hlt)]
    simp [hlt]
    rw [getElem!_def]
    cases z[i % z.size]? <;> rfl
  · rw [List.getElem?_eq_none (by simpa using hge), List.getElem?_eq_none (by rw [rep_length]; simpa using hge)]

theorem run_append_in (w : World) {t t2 ty el : TypeId} {i : TypeInfo} {d2 : TypeDesc} (ht : P.underlying t = some (.slice el)) (h2 : P.underlying t2 = some d2) (hd2 : ∀ k, d2 ≠ .int k)
    (hi : P.info? el = some i) (A : Option Addr) (len cap n : Nat) (x : Value) (news : List Value) (hx : ∀ w, (Builtin.lenOf x).run P w = .ok n w)
    (hn : (Builtin.firstCells i.size n x).run P w = .ok news.toArray w) (hle : len + n ≤ cap) :
    (Builtin.append_ #[t, t2] ty #[.slice A len cap, x]).run P w =
      (match A with | some a => (storeCells (a.add (len * i.size)) news 0).run P w | none => .ok () w).andThen fun _ w' => .ok (.slice A (len + n) cap) w' := by
  have hz : (match d2 with | .int _ => true | _ => false) = false := by
    cases d2 with
    | int k => exact absurd rfl (hd2 k)
    | _ => rfl
  cases A <;> simp [Builtin.append_, run_underlying ht, run_underlying h2, sizeOf, typeInfo, hi, hz, hx, hn, hle]

theorem run_append_new (w : World) {t t2 ty el : TypeId} {i : TypeInfo} {z : Value} {d2 : TypeDesc} (ht : P.underlying t = some (.slice el)) (h2 : P.underlying t2 = some d2) (hd2 : ∀ k, d2 ≠ .int k)
    (hi : P.info? el = some i) (hz : i.zero = some z) (A : Option Addr) (len cap n : Nat) (x : Value) (olds news : List Value) (hx : ∀ w, (Builtin.lenOf x).run P w = .ok n w)
    (hn : (Builtin.firstCells i.size n x).run P w.drew = .ok news.toArray w.drew) (ho : (Builtin.firstCells i.size len (.slice A len cap)).run P w.drew = .ok olds.toArray w.drew)
    (hle : cap < len + n) (hb : (len + n) * i.bytes ≤ 140737488355328) (hb0 : 0 < i.bytes) :
    (Builtin.append_ #[t, t2] ty #[.slice A len cap, x]).run P w =
      .ok (.slice (some ⟨w.heap.size, 0, none⟩) (len + n) (grownCap w (len + n) cap el))
        (w.drew.alloc (.cells ((olds ++ news) ++ rep (grownCap w (len + n) cap el - (len + n)) z.cells.toList).toArray el)) := by
  have hz2 : (match d2 with | .int _ => true | _ => false) = false := by
    cases d2 with
    | int k => exact absurd rfl (hd2 k)
    | _ => rfl
  have hle' : ¬ (len + n ≤ cap) := by omega
  have hnn : len + n ≤ (len + n) * i.bytes := Nat.le_mul_of_pos_right _ hb0
  have h63' : ¬ (9223372036854775807 < ((len : Int) + (n : Int))) := by omega
  have h48' : ¬ (281474976710656 < Builtin.nextslicecap (len + n) cap * i.bytes) := by have := growslice_fits (old := cap) hle hb; omega
  have hb00 : i.bytes ≠ 0 := by omega
  simp [Builtin.append_, run_underlying ht, run_underlying h2, sizeOf, typeInfo, zeroValue, hi, hz, hz2, hx, hle', h63', h48', Question.forced, hn, ho, newRow, grownCap, hb00]
  congr 2
  apply Array.ext'
  simp [List.append_assoc, zeroCells_rep]

end Go.V
end

section
/- The layer V, part 4: append, copy, make and the like against the machine. -/
namespace Go.V
open Go Go.RowKit
variable {P : Program} [Laid P] {B0 : Nat} {ι : List Place} {h : Heap} {w : World}

theorem closed_bytes (l : List UInt8) : (l.map fun b => Value.int .u8 b.toNat).all closed1 = true := by simp [closed1]

/-- The cells that an append or a copy takes. -/
theorem Rel.row (r : Rel P B0 ι h w) {size n m : Nat} {x u : Value} {new : List Value} (hx : VR ι x u) (hl : lenV x = some m) (hnm : n ≤ m) (hr : rowV h size n x = some new) :
    ∃ news : List Value, L2 (FR ι) new news ∧ new.length = n * size ∧ (∀ w2 : World, w2.heap = w.heap → (Builtin.firstCells size n u).run P w2 = .ok news.toArray w2) ∧ (∀ w2 : World, (Builtin.lenOf u).run P w2 = .ok m w2) := by
  cases x with
  | slice A len cap =>
    simp [lenV] at hl; subst hl
    have hf := hx.flat_inv trivial
    cases hf with
    | base hb =>
      cases hb with
      | nils =>
        simp [rowV] at hr; subst hr
        have : n = 0 := by omega
        subst this
        exact ⟨[], .nil, by simp, fun w2 _ => by simp [Builtin.firstCells], fun w2 => by simp [Builtin.lenOf]⟩
      | @slice b off len cap p hp hc =>
        simp only [rowV] at hr
        by_cases hn0 : n = 0
        · subst hn0
          rw [if_pos rfl] at hr
          simp only [Option.some.injEq] at hr
          subst hr
          exact ⟨[], .nil, by simp, fun w2 _ => by simp [Builtin.firstCells, loadCells, loadCellsFrom], fun w2 => by simp [Builtin.lenOf]⟩
        rw [if_neg hn0] at hr
        obtain ⟨us, h1, h2, h3⟩ := r.cells hr hp
        refine ⟨us, h1, by rw [h2], fun w2 hw2 => ?_, fun w2 => by simp [Builtin.lenOf]⟩
        refine run_firstCells_some w2 size n _ _ _ us (by rw [← h1.length, h2]) fun j v hj => ?_
        rw [← h3 j v hj]
        unfold World.cell?; rw [hw2]
      | @slice0 b off a c p hp hc =>
        have : n = 0 := by omega
        subst this
        simp only [rowV, if_true, Option.some.injEq] at hr
        subst hr
        exact ⟨[], .nil, by simp, fun w2 _ => by simp [Builtin.firstCells, loadCells, loadCellsFrom], fun w2 => by simp [Builtin.lenOf]⟩
  | string s =>
    have := hx.string_eq
    subst this
    simp [lenV] at hl; subst hl
    simp only [rowV] at hr
    split at hr
    · rename_i h1
      subst h1
      simp only [Option.some.injEq] at hr
      subst hr
      refine ⟨_, L2.closed (closed_bytes _), ?_, fun w2 _ => ?_, fun w2 => by simp [Builtin.lenOf]⟩
      · have h1 : (s.extract 0 n).size = n := by rw [ByteArray.size_extract]; omega
        rw [List.length_map, Array.length_toList]
        show (s.extract 0 n).size = n * 1
        omega
      · show Result.ok _ w2 = _
        congr 1
        apply Array.ext'
        simp only [Array.toList_map]
    · simp at hr
  | _ => simp [lenV] at hl

/-- Several worlds with one heap. -/
theorem Rel.killed (r : Rel P B0 ι h w) (b : Nat) : Rel P B0 ι (h.set b none) w := by
  by_cases hb : b < h.length
  · refine ⟨by simpa using r.len, r.base, r.glob, fun c k p hc hp => ?_, fun c c' k k' p p' hc hc' hp hp' h1 h2 he => ?_⟩
    · rw [getB_set hb] at hc
      split at hc
      · simp at hc
      · exact r.blk c k p hc hp
    · rw [getB_set hb] at hc hc'
      split at hc
      · simp at hc
      · split at hc'
        · simp at hc'
        · exact r.inj c c' k k' p p' hc hc' hp hp' h1 h2 he
  · rw [List.set_eq_of_length_le (by omega)]; exact r

theorem killB_length {b : Nat} : (killB h b).length = h.length := by
  unfold killB
  split
  · split <;> simp
  · rfl

theorem Rel.killB (r : Rel P B0 ι h w) (b : Nat) : Rel P B0 ι (killB h b) w := by
  unfold V.killB
  split
  · split
    · exact r.killed b
    · exact r
  · exact r


/-- What one step owes: a value, a heap, a world. -/
def Lands (P : Program) [Laid P] (B0 : Nat) (ι : List Place) (w : World) (s : Sem Value) (v : Value) (h' : Heap) : Prop :=
  ∃ u w' ι', s.run P w = .ok u w' ∧ VR ι' v u ∧ Rel P B0 ι' h' w' ∧ ι <+: ι' ∧ Below B0 w w'

theorem Lands.same {s : Sem Value} {v u : Value} (r : Rel P B0 ι h w) (hs : s.run P w = .ok u w) (hv : VR ι v u) : Lands P B0 ι w s v h :=
  ⟨u, w, ι, hs, hv, r, List.prefix_rfl, Below.refl _ _⟩


/-- The new row of an append that makes one. -/
theorem Rel.grown (r : Rel P B0 ι h w) {cs us z : List Value} {t m g : Nat} {k : TK} (hk : tk P t = some k) (hl : L2 (FR ι) cs us) (hz : z.length = k.size) (hm : cs.length = m * k.size) (h0 : 0 < m) (hg : m ≤ g) :
    VR (ι ++ [⟨w.heap.size, 0, g - m⟩]) (.slice (some ⟨h.length, 0, none⟩) m m) (.slice (some ⟨w.heap.size, 0, none⟩) m g) ∧
    Rel P B0 (ι ++ [⟨w.heap.size, 0, g - m⟩]) (h ++ [some ⟨cs, t, false, false⟩]) (w.alloc (.cells (us ++ rep (g - m) z).toArray t)) := by
  constructor
  · refine .one (.flat (.base ?_))
    have := BR.slice (ι := ι ++ [⟨w.heap.size, 0, g - m⟩]) (b := h.length) (off := 0) (len := m) (cap := m) (p := ⟨w.heap.size, 0, g - m⟩) (by rw [← r.len]; simp) h0
    have e : m + (g - m) = g := by omega
    simpa [e] using this
  have hpre : ι <+: ι ++ [(⟨w.heap.size, 0, g - m⟩ : Place)] := List.prefix_append _ _
  have hold : ∀ b p, b < h.length → (ι ++ [(⟨w.heap.size, 0, g - m⟩ : Place)])[b]? = some p → ι[b]? = some p := by
    intro b p hb hp
    rwa [List.getElem?_append_left (by rw [r.len]; exact hb)] at hp
  have hnew : ∀ p, (ι ++ [(⟨w.heap.size, 0, g - m⟩ : Place)])[h.length]? = some p → p = ⟨w.heap.size, 0, g - m⟩ := by
    intro p hp
    rw [← r.len] at hp
    simpa using hp.symm
  have hlt : ∀ b k p, getB h b = some k → ι[b]? = some p → p.blk < w.heap.size := by
    intro b k p hb hp
    obtain ⟨arr, fz, hh, _⟩ := r.blk b k p hb hp
    exact (Array.getElem?_eq_some_iff.1 hh).1
  refine ⟨by simp [r.len], by have := r.base; simp; omega, fun w2 hB => r.glob w2 ((Below.of_alloc r.base _).trans hB), ?_, ?_⟩
  · intro b kb p hb hp
    rcases getB_append_cases hb with ⟨hb1, hb2⟩ | ⟨rfl, rfl⟩
    · have hp := hold b p hb1 hp
      obtain ⟨arr, fz, hh, h1, h2, h3⟩ := r.blk b kb p hb2 hp
      refine ⟨arr, fz, ?_, fun i v hv => ?_, h2, h3⟩
      · rw [Below.heap_alloc _ _ _ (Array.getElem?_eq_some_iff.1 hh).1]; exact hh
      · obtain ⟨u, hu, hr⟩ := h1 i v hv; exact ⟨u, hu, hr.pre hpre⟩
    · have := hnew p hp
      subst this
      refine ⟨(us ++ rep (g - m) z).toArray, (0, 0), heap_alloc_new _ _, fun i v hv => ?_, by simp, fun _ => ⟨r.base, fun i _ => by simp, ⟨k, hk, by simp [← hl.length, rep_length, hz]⟩, by simp⟩⟩
      obtain ⟨u, hu, hr⟩ := hl.get i v hv
      refine ⟨u, ?_, hr.pre hpre⟩
      have hi : i < us.length := (List.getElem?_eq_some_iff.1 hu).1
      simp only [Nat.zero_add, List.getElem?_toArray]
      rw [List.getElem?_append_left hi]; exact hu
  · intro b b' kb kb' p p' hb hb' hp hp' hro hro' he
    rcases getB_append_cases hb with ⟨hb1, hb2⟩ | ⟨rfl, rfl⟩ <;> rcases getB_append_cases hb' with ⟨hb1', hb2'⟩ | ⟨rfl, rfl⟩
    · exact r.inj b b' kb kb' p p' hb2 hb2' (hold b p hb1 hp) (hold b' p' hb1' hp') hro hro' he
    · have := hlt b kb p hb2 (hold b p hb1 hp)
      rw [hnew p' hp'] at he; simp at he; omega
    · have := hlt b' kb' p' hb2' (hold b' p' hb1' hp')
      rw [hnew p hp] at he; simp at he; omega
    · rfl

/-- An append that finds room where the abstract one makes a new row: the old one is left behind. -/
theorem Rel.inplace (r : Rel P B0 ι h w) {b off cap len n : Nat} {blk : Blk} {olds new news : List Value} {p : Place} {k : TK} (hk : tk P blk.ty = some k) (hb : getB h b = some blk) (hp : ι[b]? = some p)
    (hro : blk.ro = false) (hfit : off + cap * k.size = blk.cells.length) (hle : len ≤ cap) (holds : cellsAt h b off (len * k.size) = some olds) (hl : L2 (FR ι) new news) (hn : new.length = n * k.size)
    (hroom : len + n ≤ cap + p.slack) (h0 : 0 < len + n) :
    ∃ w', (storeCells ⟨p.blk, p.base + off + len * k.size, none⟩ news 0).run P w = .ok () w' ∧
      VR (ι ++ [⟨p.blk, p.base + off, cap + p.slack - (len + n)⟩]) (.slice (some ⟨h.length, 0, none⟩) (len + n) (len + n)) (.slice (some ⟨p.blk, p.base + off, none⟩) (len + n) (cap + p.slack)) ∧
      Rel P B0 (ι ++ [⟨p.blk, p.base + off, cap + p.slack - (len + n)⟩]) (h.set b none ++ [some ⟨olds ++ new, blk.ty, false, false⟩]) w' ∧ Below B0 w w' := by
  obtain ⟨arr, fz, hh, hcell, _, hown⟩ := r.blk b blk p hb hp
  obtain ⟨hB, hfz, ⟨tk', htk, hsz⟩, hex⟩ := hown hro
  rw [hk] at htk; simp only [Option.some.injEq] at htk; subst htk
  have hmul : (len + n) * k.size ≤ (cap + p.slack) * k.size := Nat.mul_le_mul_right _ hroom
  have hm1 : (len + n) * k.size = len * k.size + n * k.size := Nat.add_mul _ _ _
  have hm2 : (cap + p.slack) * k.size = cap * k.size + p.slack * k.size := Nat.add_mul _ _ _
  obtain ⟨w', arr', hr, hg', hsz', hout, hin, hoth, hws, ho, ht, hpp⟩ := run_storeCells_row (P := P) p.blk (p.base + off + len * k.size) blk.ty fz news 0 w arr hh (by rw [← hl.length, hn]; omega) hfz (L2.one hl)
  generalize hq : (⟨p.blk, p.base + off, cap + p.slack - (len + n)⟩ : Place) = q
  have hpre : ι <+: ι ++ [q] := List.prefix_append _ _
  have hbl := getB_lt hb
  have hold : ∀ c pc, c < h.length → (ι ++ [q])[c]? = some pc → ι[c]? = some pc := by
    intro c pc hc hpc
    rwa [List.getElem?_append_left (by rw [r.len]; exact hc)] at hpc
  have hnew : ∀ pc, (ι ++ [q])[h.length]? = some pc → pc = q := by
    intro pc hpc
    rw [← r.len] at hpc
    simpa using hpc.symm
  have hBel : Below B0 w w' := ⟨ho, ht, hpp, by omega, fun i hi => hoth i (by omega)⟩
  refine ⟨w', hr, ?_, ⟨by simp [r.len], by rw [hws]; exact r.base, fun w2 hB => r.glob w2 (hBel.trans hB), ?_, ?_⟩, hBel⟩
  · refine .one (.flat (.base ?_))
    have := BR.slice (ι := ι ++ [q]) (b := h.length) (off := 0) (len := len + n) (cap := len + n) (p := q) (by rw [← r.len]; simp) h0
    subst hq
    have e : len + n + (cap + p.slack - (len + n)) = cap + p.slack := by omega
    simpa [e] using this
  · intro c kc pc hc hpc
    rcases getB_append_cases hc with ⟨hc1, hc2⟩ | ⟨hc1, rfl⟩
    · simp at hc1
      rw [getB_set hbl] at hc2
      split at hc2
      · simp at hc2
      · rename_i hne
        have hpc := hold c pc hc1 hpc
        obtain ⟨arr1, fz1, hh1, h1, h2, h3⟩ := r.blk c kc pc hc2 hpc
        refine ⟨arr1, fz1, ?_, fun i v hv => ?_, h2, h3⟩
        · rw [hoth _ ?_]; exact hh1
          intro he
          cases hcr : kc.ro with
          | true => have := h2 hcr; omega
          | false => exact hne (r.inj c b kc blk pc p hc2 hb hpc hp hcr hro he)
        · obtain ⟨u, hu, hr⟩ := h1 i v hv; exact ⟨u, hu, hr.pre hpre⟩
    · simp at hc1
      subst hc1
      have := hnew pc hpc
      subst this
      obtain ⟨us, hu1, hu2, hu3⟩ := r.cells holds hp
      have hul : us.length = len * k.size := by rw [← hu1.length]; exact hu2
      subst hq
      refine ⟨arr', fz, hg', fun i v hv => ?_, by simp, fun _ => ⟨hB, by rw [hsz']; exact hfz, ⟨k, hk, ?_⟩, by simp⟩⟩
      · simp only [] at hv ⊢
        rcases Nat.lt_or_ge i olds.length with hi | hi
        · rw [List.getElem?_append_left hi] at hv
          obtain ⟨u, hu, hru⟩ := hu1.get i v hv
          refine ⟨u, ?_, hru.pre hpre⟩
          have h5 := hu3 i u hu
          rw [addr_add, World.cell?, hh] at h5
          simp at h5
          rw [hout _ (by omega)]; exact h5
        · rw [List.getElem?_append_right hi] at hv
          obtain ⟨u, hu, hru⟩ := hl.get _ v hv
          refine ⟨u, ?_, hru.pre hpre⟩
          have h5 := hin _ u hu
          rw [← h5]; congr 1; omega
      · simp only [List.length_append]
        rw [hsz', hsz, hn, hu2, Nat.sub_mul]
        omega
  · intro c c' kc kc' pc pc' hc hc' hpc hpc' hro1 hro2 he
    have key : ∀ d kd pd, d ≠ h.length → getB (h.set b none ++ [some ⟨olds ++ new, blk.ty, false, false⟩]) d = some kd → (ι ++ [q])[d]? = some pd → d ≠ b ∧ getB h d = some kd ∧ ι[d]? = some pd := by
      intro d kd pd hd hgd hpd
      rcases getB_append_cases hgd with ⟨hd1, hd2⟩ | ⟨hd1, _⟩
      · simp at hd1
        rw [getB_set hbl] at hd2
        split at hd2
        · simp at hd2
        · rename_i hne; exact ⟨hne, hd2, hold d pd hd1 hpd⟩
      · simp at hd1; exact absurd hd1 hd
    by_cases e1 : c = h.length <;> by_cases e2 : c' = h.length
    · rw [e1, e2]
    · obtain ⟨x1, x2, x3⟩ := key c' kc' pc' e2 hc' hpc'
      subst e1
      have := hnew pc hpc
      subst this; subst hq
      exact absurd (r.inj c' b kc' blk pc' p x2 hb x3 hp hro2 hro he.symm) x1
    · obtain ⟨x1, x2, x3⟩ := key c kc pc e1 hc hpc
      subst e2
      have := hnew pc' hpc'
      subst this; subst hq
      exact absurd (r.inj c b kc blk pc p x2 hb x3 hp hro1 hro he) x1
    · obtain ⟨x1, x2, x3⟩ := key c kc pc e1 hc hpc
      obtain ⟨y1, y2, y3⟩ := key c' kc' pc' e2 hc' hpc'
      exact r.inj c c' kc kc' pc pc' x2 y2 x3 y3 hro1 hro2 he


theorem killB_ex {b : Nat} {blk : Blk} (hb : getB h b = some blk) (he : blk.ex = false) : killB h b = h.set b none := by
  unfold killB; rw [hb]; simp [he]

theorem grownCap_ge (w : World) (need old : Nat) (e : TypeId) : need ≤ grownCap w need old e := by
  exact Nat.le_add_right _ _

theorem append_sound (r : Rel P B0 ι h w) {t t2 ty : TypeId} {s us x ux v : Value} {h' : Heap} (hs : VR ι s us) (hx : VR ι x ux) (happ : appendV P t s x h = some (v, h'))
    (hk2 : (tk P t2).map (·.kind) = some 5 ∨ (tk P t2).map (·.kind) = some 3) : Lands P B0 ι w (Builtin.append_ #[t, t2] ty #[us, ux]) v h' := by
  obtain ⟨d2, hd2, hdn⟩ : ∃ d, P.underlying t2 = some d ∧ ∀ k, d ≠ .int k := by
    rcases hk2 with hk2 | hk2
    · exact kind_not_int hk2 (by decide)
    · exact kind_not_int hk2 (by decide)
  unfold appendV at happ
  simp only [Option.bind_eq_some_iff] at happ
  obtain ⟨el, hel, k, hk, happ⟩ := happ
  have ht := tElem_some hel
  obtain ⟨i, z, d, hi, hd, hz, hzc, hsz, hby, hcl, hzl, hs0, hb0, _, _, _⟩ := tk_info hk
  cases s with
  | slice A len cap =>
    simp only [Option.bind_eq_some_iff] at happ
    obtain ⟨n, hn, new, hnew, happ⟩ := happ
    obtain ⟨news, hl, hnl, hfc, hlo⟩ := r.row (size := k.size) hx hn (Nat.le_refl n) hnew
    have hfs := hs.flat_inv trivial
    split at happ
    · -- in place, told
      rename_i hle
      cases hfs with
      | base hb =>
        cases hb with
        | nils =>
          simp only [] at happ
          split at happ
          · rename_i hn0
            subst hn0
            simp only [Option.some.injEq, Prod.mk.injEq] at happ
            obtain ⟨rfl, rfl⟩ := happ
            refine Lands.same r (u := .slice none 0 0) ?_ hs
            rw [run_append_in w ht hd2 hdn hi none 0 0 0 ux news hlo (by rw [hsz]; exact hfc w rfl) (by omega)]
            rfl
          · simp at happ
        | @slice b off len cap p hp hc =>
          simp only [] at happ
          have hrun := run_append_in (ty := ty) w ht hd2 hdn hi (some ⟨p.blk, p.base + off, none⟩) len (cap + p.slack) n ux news hlo (by rw [hsz]; exact hfc w rfl) (by omega)
          simp only [addr_add] at hrun
          split at happ
          · rename_i hn0
            subst hn0
            simp only [Option.some.injEq, Prod.mk.injEq] at happ
            obtain ⟨rfl, rfl⟩ := happ
            have : news = [] := by
              have := hl.length
              rw [hnl] at this
              simpa using this.symm
            subst this
            exact Lands.same r hrun hs
          · simp only [Option.map_eq_some_iff, Prod.mk.injEq] at happ
            obtain ⟨h1, hw, rfl, rfl⟩ := happ
            obtain ⟨w', hr, hR, hB⟩ := r.write hw hp hl
            refine ⟨_, w', ι, ?_, .one (.flat (.base (.slice hp hc))), hR, List.prefix_rfl, hB⟩
            rw [hrun, hsz]
            rw [Nat.add_assoc, hr]
            rfl
        | @slice0 b off a c p hp hc =>
          have hn0 : n = 0 := by omega
          subst hn0
          simp only [if_true] at happ
          simp only [Option.some.injEq, Prod.mk.injEq] at happ
          obtain ⟨rfl, rfl⟩ := happ
          have : news = [] := by
            have := hl.length
            rw [hnl] at this
            simpa using this.symm
          subst this
          have hrun := run_append_in (ty := ty) w ht hd2 hdn hi (some a) 0 c 0 ux [] hlo (by rw [hsz]; exact hfc w rfl) (by omega)
          exact Lands.same r hrun hs
    · rename_i hle
      split at happ
      · rename_i hbig
        cases hfs with
        | base hb =>
          cases hb with
          | nils =>
            simp only [if_true] at happ
            simp only [Option.some.injEq, Prod.mk.injEq] at happ
            obtain ⟨rfl, rfl⟩ := happ
            have hrun := run_append_new (ty := ty) w ht hd2 hdn hi hz none 0 0 n ux [] news hlo (by rw [hsz]; exact hfc w.drew rfl) (by simp [Builtin.firstCells]) (by omega) (by rw [hby]; simpa using hbig) (by omega)
            simp only [List.nil_append, Nat.zero_add, hzc] at hrun
            have hg := grownCap_ge w n 0 el
            obtain ⟨h1, h2⟩ := r.drew.grown hk hl hzl hnl (by omega) hg
            exact ⟨_, _, _, hrun, h1, h2, List.prefix_append _ _, ((Below.refl B0 w).drew).trans (Below.of_alloc r.drew.base _)⟩
          | @slice b off len cap p hp hc =>
            simp only [Option.bind_eq_some_iff] at happ
            obtain ⟨blk, hb, happ⟩ := happ
            split at happ
            · rename_i hcond
              simp only [Bool.and_eq_true, Bool.not_eq_true', decide_eq_true_eq] at hcond
              obtain ⟨⟨⟨hro, hfit⟩, hlc⟩, hty⟩ := hcond
              subst hty
              simp only [Option.map_eq_some_iff, Prod.mk.injEq] at happ
              obtain ⟨old, hold, rfl, rfl⟩ := happ
              have hold' : cellsAt h b off (len * k.size) = some old := by
                simp only [rowV] at hold
                by_cases h0 : len = 0
                · subst h0
                  rw [if_pos rfl] at hold
                  simp only [Option.some.injEq] at hold
                  subst hold
                  unfold cellsAt
                  rw [hb]
                  simp only [Nat.zero_mul, List.take_zero]
                  rw [if_pos (by omega)]
                · rw [if_neg h0] at hold; exact hold
              by_cases hroom : len + n ≤ cap + p.slack
              · -- the machine has room
                have hex : blk.ex = false := by
                  obtain ⟨_, _, _, _, _, hown⟩ := r.blk b blk p hb hp
                  cases hx : blk.ex with
                  | false => rfl
                  | true => have := (hown hro).2.2.2 hx; omega
                obtain ⟨w', hr, hV, hR, hB⟩ := r.inplace (n := n) hk hb hp hro hfit hlc hold' hl hnl hroom (by omega)
                refine ⟨_, w', _, ?_, hV, by rw [killB_ex hb hex]; exact hR, List.prefix_append _ _, hB⟩
                have hrun := run_append_in (ty := ty) w ht hd2 hdn hi (some ⟨p.blk, p.base + off, none⟩) len (cap + p.slack) n ux news hlo (by rw [hsz]; exact hfc w rfl) (by omega)
                rw [hrun, hsz]
                simp only [addr_add]
                rw [hr]
                rfl
              · obtain ⟨olds, ho1, ho2, ho3, ho4⟩ := r.row (size := k.size) (x := .slice (some ⟨b, off, none⟩) len cap) hs rfl (Nat.le_refl len) hold
                have hrun := run_append_new (ty := ty) w ht hd2 hdn hi hz (some ⟨p.blk, p.base + off, none⟩) len (cap + p.slack) n ux olds news hlo (by rw [hsz]; exact hfc w.drew rfl) (by rw [hsz]; exact ho3 w.drew rfl) (by omega) (by rw [hby]; exact hbig) (by omega)
                have hg := grownCap_ge w (len + n) (cap + p.slack) blk.ty
                have hlen : (old ++ new).length = (len + n) * k.size := by simp [ho2, hnl, Nat.add_mul]
                obtain ⟨h1, h2⟩ := (r.drew.killB b).grown hk (ho1.append hl) hzl hlen (by omega) hg
                rw [hzc] at hrun
                exact ⟨_, _, _, hrun, by simpa [killB_length] using h1, h2, List.prefix_append _ _, ((Below.refl B0 w).drew).trans (Below.of_alloc r.drew.base _)⟩
            · simp at happ
          | @slice0 b off a c p hp hc =>
            simp only [Option.bind_eq_some_iff] at happ
            obtain ⟨blk, hb, happ⟩ := happ
            split at happ
            · rename_i hcond
              simp only [Bool.and_eq_true, Bool.not_eq_true', decide_eq_true_eq] at hcond
              obtain ⟨⟨⟨hro, hfit⟩, hlc⟩, hty⟩ := hcond
              subst hty
              simp only [Option.map_eq_some_iff, Prod.mk.injEq] at happ
              obtain ⟨old, hold, rfl, rfl⟩ := happ
              have hold' : cellsAt h b off (0 * k.size) = some old := by
                simp only [rowV, if_true, Option.some.injEq] at hold
                subst hold
                unfold cellsAt
                rw [hb]
                simp only [Nat.zero_mul, List.take_zero]
                rw [if_pos (by omega)]
              by_cases hroom : n ≤ c
              · rcases hc with rfl | ⟨rfl, rfl⟩
                · omega
                · have hex : blk.ex = false := by
                    obtain ⟨_, _, _, _, _, hown⟩ := r.blk b blk p hb hp
                    cases hx : blk.ex with
                    | false => rfl
                    | true => have := (hown hro).2.2.2 hx; omega
                  obtain ⟨w', hr, hV, hR, hB⟩ := r.inplace (n := n) (len := 0) (cap := 0) hk hb hp hro hfit (Nat.le_refl 0) hold' hl hnl (by omega) (by omega)
                  refine ⟨_, w', _, ?_, hV, by rw [killB_ex hb hex]; exact hR, List.prefix_append _ _, hB⟩
                  have hrun := run_append_in (ty := ty) w ht hd2 hdn hi (some ⟨p.blk, p.base + off, none⟩) 0 p.slack n ux news hlo (by rw [hsz]; exact hfc w rfl) (by omega)
                  rw [hrun, hsz]
                  simp only [addr_add]
                  rw [hr]
                  simp
              · obtain ⟨olds, ho1, ho2, ho3, ho4⟩ := r.row (size := k.size) (x := .slice (some ⟨b, off, none⟩) 0 0) hs rfl (Nat.le_refl 0) hold
                have hrun := run_append_new (ty := ty) w ht hd2 hdn hi hz (some a) 0 c n ux olds news hlo (by rw [hsz]; exact hfc w.drew rfl) (by rw [hsz]; exact ho3 w.drew rfl) (by omega) (by rw [hby]; exact hbig) (by omega)
                have hg := grownCap_ge w (0 + n) c blk.ty
                have hlen : (old ++ new).length = (0 + n) * k.size := by simp [ho2, hnl, Nat.add_mul]
                obtain ⟨h1, h2⟩ := (r.drew.killB b).grown hk (ho1.append hl) hzl hlen (by omega) hg
                rw [hzc] at hrun
                exact ⟨_, _, _, hrun, by simpa [killB_length] using h1, h2, List.prefix_append _ _, ((Below.refl B0 w).drew).trans (Below.of_alloc r.drew.base _)⟩
            · simp at happ
      · simp at happ
  | _ => simp at happ

end Go.V
end

section
/- The layer V, part 5: each operation against the machine. -/
namespace Go.V
open Go Go.RowKit
variable {P : Program} [Laid P] {B0 : Nat} {ι : List Place} {h : Heap} {w : World}

theorem madeCells_rep (z : Array Value) (n : Nat) : (madeCells z (n * z.size)).toList = rep n z.toList := zeroCells_rep z n

theorem makeSlice_sound (r : Rel P B0 ι h w) {t : TypeId} {l c ul uc v : Value} {h' : Heap} (hl : VR ι l ul) (hc : VR ι c uc) (hm : makeSliceV P t l c h = some (v, h')) : Lands P B0 ι w (Instr.makeSlice t ul uc) v h' := by
  unfold makeSliceV at hm
  split at hm
  · rename_i kl l kc c
    have := hl.int_eq; subst this
    have := hc.int_eq; subst this
    simp only [Option.bind_eq_some_iff] at hm
    obtain ⟨el, hel, k, hk, hm⟩ := hm
    have ht := tElem_some hel
    obtain ⟨i, z, d, hi, hd, hz, hzc, hsz, hby, hcl, hzl, hs0, hb0, _, _, _⟩ := tk_info hk
    split at hm
    · rename_i hcond
      simp only [Option.some.injEq, Prod.mk.injEq] at hm
      obtain ⟨rfl, rfl⟩ := hm
      obtain ⟨h0, h1, h2⟩ := hcond
      have hb : (i.bytes : Int) * c ≤ 140737488355328 := by rw [hby, Int.mul_comm]; exact h2
      have hcb : c ≤ c * k.bytes := by
        have : (1 : Int) ≤ k.bytes := by omega
        calc c = c * 1 := by omega
          _ ≤ c * k.bytes := Int.mul_le_mul_of_nonneg_left this (by omega)
      have hrun := run_make (P := P) w t el i z ht hi hz kl kc l c h0 h1 (by omega) (by omega)
      have hzsz : z.cells.size = i.size := by rw [← Array.length_toList, hzc, hzl, hsz]
      have hcells : madeCells z.cells (c.toNat * i.size) = (rep c.toNat k.zero).toArray := by
        apply Array.ext'
        rw [← hzsz, madeCells_rep, hzc]
      rw [hcells] at hrun
      have hn := r.new (ex := true) hk (L2.closed (ι := ι) (closed_rep (n := c.toNat) hcl))
      refine ⟨_, _, _, hrun, ?_, hn, List.prefix_append _ _, Below.of_alloc r.base _⟩
      refine .one (.flat (.base ?_))
      by_cases hc0 : c.toNat = 0
      · have hl0 : l.toNat = 0 := by omega
        rw [hc0, hl0]
        exact .slice0 (p := ⟨w.heap.size, 0, 0⟩) (by rw [← r.len]; simp) (.inl rfl)
      · have := BR.slice (ι := ι ++ [⟨w.heap.size, 0, 0⟩]) (b := h.length) (off := 0) (len := l.toNat) (cap := c.toNat) (p := ⟨w.heap.size, 0, 0⟩) (by rw [← r.len]; simp) (by omega)
        simpa using this
    · simp at hm
  · simp at hm

/-! ### parts -/
theorem foldl_put (off : Nat) : ∀ (l : List Value) (cs : Array Value) (j : Nat), off + j + l.length ≤ cs.size →
    ((l.zipIdx j).foldl (fun cs (x : Value × Nat) => cs.setIfInBounds (off + x.2) x.1) cs).toList = putCells cs.toList (off + j) l := by
  intro l
  induction l with
  | nil => intro cs j _; simp [putCells]
  | cons v l ih =>
    intro cs j hj
    simp only [List.length_cons] at hj
    simp only [List.zipIdx_cons, List.foldl_cons]
    rw [ih (cs.setIfInBounds (off + j) v) (j + 1) (by simp; omega)]
    simp only [Array.toList_setIfInBounds]
    apply List.ext_getElem?
    intro i
    have hl1 : off + (j + 1) + l.length ≤ (cs.toList.set (off + j) v).length := by simp; omega
    have hl2 : off + j + (v :: l).length ≤ cs.toList.length := by simp; omega
    by_cases h1 : off + (j + 1) ≤ i ∧ i < off + (j + 1) + l.length
    · rw [putCells_in hl1 h1.1 h1.2, putCells_in hl2 (by omega) (by simp; omega)]
      rw [show i - (off + j) = (i - (off + (j + 1))) + 1 from by omega]
      simp
    · rw [putCells_out hl1 (by omega)]
      by_cases h2 : i = off + j
      · subst h2
        rw [putCells_in hl2 (by omega) (by simp)]
        have : off + j < cs.size := by omega
        simp [this]
      · rw [putCells_out hl2 (by simp; omega), List.getElem?_set, if_neg (by omega)]

theorem fill_sound {place : Nat → Option (Nat × Nat)} : ∀ {parts uparts : List (Nat × Value)} {cells cs : List Value} {ucells : Array Value}, L2 (fun a b : Nat × Value => a.1 = b.1 ∧ VR ι a.2 b.2) parts uparts → L2 (FR ι) cells ucells.toList →
    fillV place cells parts = some cs → ∃ us : Array Value, Instr.fill place ucells uparts = some us ∧ L2 (FR ι) cs us.toList := by
  intro parts
  induction parts with
  | nil =>
    intro uparts cells cs ucells hp hc hf
    cases hp
    simp [fillV] at hf; subst hf
    exact ⟨ucells, rfl, hc⟩
  | cons x rest ih =>
    intro uparts cells cs ucells hp hc hf
    obtain ⟨i, v⟩ := x
    cases hp with
    | @cons _ b _ m hr hrest =>
      obtain ⟨i', u⟩ := b
      obtain ⟨rfl, hv⟩ := hr
      simp only [] at hv
      simp only [fillV] at hf
      split at hf
      · rename_i off size ccs hpl hcv
        split at hf
        · rename_i hcond
          obtain ⟨hlen, hfit⟩ := hcond
          obtain ⟨hl2, hle⟩ := cellsV_inv hv hcv
          have hcl := hc.length
          simp only [Array.length_toList] at hcl
          have hput : (u.cells.zipIdx.foldl (fun cs (x : Value × Nat) => cs.setIfInBounds (off + x.2) x.1) ucells).toList = putCells ucells.toList off u.cells.toList := by
            rw [← Array.foldl_toList, Array.toList_zipIdx]
            exact foldl_put off u.cells.toList ucells 0 (by simp; omega)
          have hnext : L2 (FR ι) (putCells cells off ccs) (u.cells.zipIdx.foldl (fun cs (x : Value × Nat) => cs.setIfInBounds (off + x.2) x.1) ucells).toList := by
            rw [hput]
            unfold putCells
            have e : u.cells.toList.length = ccs.length := hl2.length.symm
            rw [e]
            exact ((hc.take off).append hl2).append (hc.drop _)
          obtain ⟨us, hus, hr⟩ := ih hrest hnext hf
          refine ⟨us, ?_, hr⟩
          simp only [Instr.fill, hpl]
          rw [if_neg]
          · exact hus
          · simp; omega
        · simp at hf
      · simp at hf

end Go.V
end

section
/- The layer V, part 6: loads, stores, parts, slices, operators. -/
namespace Go.V
open Go Go.RowKit
variable {P : Program} [Laid P] {B0 : Nat} {ι : List Place} {h : Heap} {w : World}

theorem tField_some {t f : Nat} {x : Nat × Nat} (hf : tField P t f = some x) : ∃ fs fl, P.underlying t = some (.struct fs) ∧ fs[f]? = some fl ∧ x = (fl.offset, fl.type) := by
  unfold tField at hf
  split at hf
  · rename_i fs hfs
    simp only [Option.map_eq_some_iff] at hf
    obtain ⟨fl, h1, h2⟩ := hf
    exact ⟨fs, fl, hfs, h1, h2.symm⟩
  · simp at hf
theorem tArr_some {t : Nat} {x : Nat × Nat} (hf : tArr P t = some x) : P.underlying t = some (.array x.1 x.2) := by
  unfold tArr at hf
  split at hf
  · rename_i n e he; simp at hf; subst hf; exact he
  · simp at hf
theorem tInt_some {t : Nat} {k : IntKind} (hf : tInt P t = some k) : P.underlying t = some (.int k) := by
  unfold tInt at hf
  split at hf
  · rename_i n he; simp at hf; subst hf; exact he
  · simp at hf
theorem kind_str {t : Nat} (hk : (tk P t).map (·.kind) = some 3) : P.underlying t = some .string := by
  cases hh : tk P t with
  | none => simp [hh] at hk
  | some k =>
    simp [hh] at hk
    obtain ⟨i, z, d, hi, hd, hz, hzc, hsz, hby, hcl, hzl, hs0, hb0, hkd, _, _⟩ := tk_info hh
    rw [hkd] at hk
    rw [hd]
    cases d <;> simp_all [kindOf]

theorem run_isAgg {t : Nat} {k : TK} (hk : tk P t = some k) (w : World) : (isAgg t).run P w = .ok k.agg w := by
  obtain ⟨i, z, d, hi, hd, hz, hzc, hsz, hby, hcl, hzl, hs0, hb0, hkd, hag, hfok⟩ := tk_info hk
  unfold isAgg
  rw [Sem.run_bind, run_underlying hd w, hag]
  cases d <;> simp [kindOf]

theorem run_sizeOf {t : Nat} {k : TK} (hk : tk P t = some k) (w : World) : (sizeOf t).run P w = .ok k.size w := by
  obtain ⟨i, z, d, hi, hd, hz, hzc, hsz, hby, hcl, hzl, hs0, hb0, hkd, hag, hfok⟩ := tk_info hk
  simp [sizeOf, typeInfo, hi, hsz]

theorem run_zeroValue {t : Nat} {k : TK} (hk : tk P t = some k) : ∃ z, z.cells.toList = k.zero ∧ ∀ w : World, (zeroValue t).run P w = .ok z w := by
  obtain ⟨i, z, d, hi, hd, hz, hzc, hsz, hby, hcl, hzl, hs0, hb0, hkd, hag, hfok⟩ := tk_info hk
  exact ⟨z, hzc, fun w => by simp [zeroValue, typeInfo, hi, hz]⟩

theorem load_sound (r : Rel P B0 ι h w) {t : TypeId} {a ua v : Value} (ha : VR ι a ua) (hv : loadV P t a h = some v) : ∃ u, (Instr.loadAt t ua).run P w = .ok u w ∧ VR ι v u := by
  unfold loadV at hv
  split at hv
  · rename_i b off k hk
    have hf := ha.flat_inv trivial
    cases hf with
    | base hb =>
      cases hb with
      | @ptr _ _ p hp =>
        split at hv
        · rename_i hag
          simp only [Option.map_eq_some_iff] at hv
          obtain ⟨cs, hcs, rfl⟩ := hv
          obtain ⟨us, h1, h2, h3⟩ := r.cells hcs hp
          have hl : us.length = k.size := by rw [← h1.length]; exact h2
          refine ⟨.agg us.toArray, ?_, .one (.agg h1)⟩
          have hrun := run_loadCells_list (P := P) w ⟨p.blk, p.base + off, none⟩ us h3
          rw [hl] at hrun
          simp [Instr.loadAt, Instr.sureAddr, loadVar, run_isAgg hk, run_sizeOf hk, hag, hrun]
        · rename_i hag
          simp only [Option.bind_eq_some_iff] at hv
          obtain ⟨blk, hb, hc⟩ := hv
          obtain ⟨u, hu, hr⟩ := r.cell hb hc hp
          refine ⟨u, ?_, .one (.flat hr)⟩
          simp [Instr.loadAt, Instr.sureAddr, loadVar, run_isAgg hk, hag, hu]
  · simp at hv

theorem store_sound (r : Rel P B0 ι h w) {t : TypeId} {a ua x ux : Value} {h' : Heap} (ha : VR ι a ua) (hx : VR ι x ux) (hv : storeV P t a x h = some h') :
    ∃ w', (Instr.storeAt t ua ux).run P w = .ok () w' ∧ Rel P B0 ι h' w' ∧ Below B0 w w' := by
  unfold storeV at hv
  split at hv
  · rename_i b off k cs hk hcs
    have hf := ha.flat_inv trivial
    cases hf with
    | base hb =>
      cases hb with
      | @ptr _ _ p hp =>
        split at hv
        · rename_i hlen
          obtain ⟨h1, h2⟩ := cellsV_inv hx hcs
          obtain ⟨w', hr, hR, hB⟩ := r.write hv hp h1
          refine ⟨w', ?_, hR, hB⟩
          have hsz : ux.cells.size = k.size := by omega
          simp [Instr.storeAt, Instr.sureAddr, storeVar, run_sizeOf hk, hsz, hr]
        · simp at hv
  · simp at hv

theorem part_sound {t : TypeId} {cs : List Value} {us : Array Value} {off : Nat} {v : Value} (hc : L2 (FR ι) cs us.toList) (hv : partV P t cs off = some v) : ∃ u, (∀ w : World, (part t us off).run P w = .ok u w) ∧ VR ι v u := by
  unfold partV at hv
  simp only [Option.bind_eq_some_iff] at hv
  obtain ⟨k, hk, hv⟩ := hv
  split at hv
  · rename_i hag
    simp only [Option.some.injEq] at hv; subst hv
    refine ⟨.agg (us.extract off (off + k.size)), fun w => by simp [part, run_isAgg hk, run_sizeOf hk, hag], ?_⟩
    have := VR.one (AR.agg ((hc.drop off).take k.size))
    have e : us.extract off (off + k.size) = ((us.toList.drop off).take k.size).toArray := by
      apply Array.ext'
      simp [Array.toList_extract, List.extract]
    rw [e]; exact this
  · rename_i hag
    obtain ⟨u, hu, hr⟩ := hc.get off v hv
    refine ⟨u, fun w => ?_, .one (.flat hr)⟩
    have hu' : us[off]? = some u := by simpa using hu
    simp [part, run_isAgg hk, hag, hu']

theorem field_sound {t f : Nat} {x ux v : Value} (hx : VR ι x ux) (hv : fieldV P t x f = some v) : ∃ u, (∀ w : World, (Instr.field t ux f).run P w = .ok u w) ∧ VR ι v u := by
  unfold fieldV at hv
  split at hv
  · rename_i cs
    simp only [Option.bind_eq_some_iff] at hv
    obtain ⟨⟨off, ft⟩, hf, hv⟩ := hv
    obtain ⟨fs, fl, h1, h2, h3⟩ := tField_some hf
    simp only [Prod.mk.injEq] at h3
    obtain ⟨rfl, rfl⟩ := h3
    obtain ⟨us, rfl, hl⟩ := hx.agg_inv
    obtain ⟨u, hu, hr⟩ := part_sound hl hv
    exact ⟨u, fun w => by simp [Instr.field, run_underlying h1, h2, asAgg, hu], hr⟩
  · simp at hv

theorem fieldAddr_sound {t f : Nat} {x ux v : Value} (hx : VR ι x ux) (hv : fieldAddrV P t x f = some v) : ∃ u, (∀ w : World, (Instr.fieldAt t ux f).run P w = .ok u w) ∧ VR ι v u := by
  unfold fieldAddrV at hv
  split at hv
  · rename_i b off
    simp only [Option.bind_eq_some_iff, Option.map_eq_some_iff] at hv
    obtain ⟨⟨o, ft⟩, hf, k, hk, rfl⟩ := hv
    obtain ⟨fs, fl, h1, h2, h3⟩ := tField_some hf
    simp only [Prod.mk.injEq] at h3
    obtain ⟨rfl, rfl⟩ := h3
    have hs0 : 0 < k.size := by obtain ⟨_, _, _, _, _, _, _, _, _, _, _, hs0, _⟩ := tk_info hk; exact hs0
    have hfl := hx.flat_inv trivial
    cases hfl with
    | base hb =>
      cases hb with
      | @ptr _ _ p hp =>
        refine ⟨.pointer (some ⟨p.blk, p.base + off + fl.offset, none⟩), fun w => ?_, .one (.flat (.base (by rw [Nat.add_assoc]; exact .ptr hp)))⟩
        have hne : k.size ≠ 0 := by omega
        simp [Instr.fieldAt, Instr.sureAddr, run_underlying h1, h2, fieldPlace, run_sizeOf hk, hne, addr_add]
  · simp at hv

theorem indexAddr_sound {t : Nat} {x ux i ui v : Value} (hx : VR ι x ux) (hi : VR ι i ui) (hv : indexAddrV P t x i = some v) : ∃ u, (∀ w : World, (Instr.indexAt t ux ui).run P w = .ok u w) ∧ VR ι v u := by
  unfold indexAddrV at hv
  split at hv
  · rename_i b off len cap k i
    have := hi.int_eq; subst this
    simp only [Option.bind_eq_some_iff] at hv
    obtain ⟨el, hel, k, hk, hv⟩ := hv
    have ht := tElem_some hel
    split at hv
    · rename_i hc
      simp only [Option.some.injEq] at hv; subst hv
      have hf := hx.flat_inv trivial
      cases hf with
      | base hb =>
        cases hb with
        | @slice _ _ _ _ p hp hcap =>
          refine ⟨.pointer (some ⟨p.blk, p.base + off + i.toNat * k.size, none⟩), fun w => ?_, .one (.flat (.base (by rw [Nat.add_assoc]; exact .ptr hp)))⟩
          simp [Instr.indexAt, asIntOf, run_underlying ht, hc, run_sizeOf hk, addr_add]
        | slice0 hp hc2 => simp at hc; omega
    · simp at hv
  · rename_i b off k i
    have := hi.int_eq; subst this
    simp only [Option.bind_eq_some_iff] at hv
    obtain ⟨⟨n, el⟩, hel, k, hk, hv⟩ := hv
    have ht := tArr_some hel
    split at hv
    · rename_i hc
      simp only [Option.some.injEq] at hv; subst hv
      have hf := hx.flat_inv trivial
      cases hf with
      | base hb =>
        cases hb with
        | @ptr _ _ p hp =>
          refine ⟨.pointer (some ⟨p.blk, p.base + off + i.toNat * k.size, none⟩), fun w => ?_, .one (.flat (.base (by rw [Nat.add_assoc]; exact .ptr hp)))⟩
          simp [Instr.indexAt, asIntOf, run_underlying ht, hc, run_sizeOf hk, addr_add, Instr.sureAddr]
    · simp at hv
  · simp at hv

theorem index_sound {t : Nat} {x ux i ui v : Value} (hx : VR ι x ux) (hi : VR ι i ui) (hv : indexV P t x i = some v) : ∃ u, (∀ w : World, (Instr.index t ux ui).run P w = .ok u w) ∧ VR ι v u := by
  unfold indexV at hv
  split at hv
  · rename_i s k i
    have := hi.int_eq; subst this
    have := hx.string_eq; subst this
    split at hv
    · rename_i hk
      have ht := kind_str hk
      simp only [Option.map_eq_some_iff] at hv
      obtain ⟨b, hb, rfl⟩ := hv
      exact ⟨.int .u8 b.toNat, fun w => by simp [Instr.index, asIntOf, run_underlying ht, hb], .closed rfl⟩
    · simp at hv
  · rename_i cs k i
    have := hi.int_eq; subst this
    simp only [Option.bind_eq_some_iff] at hv
    obtain ⟨⟨n, el⟩, hel, k, hk, hv⟩ := hv
    have ht := tArr_some hel
    split at hv
    · rename_i hc
      obtain ⟨us, rfl, hl⟩ := hx.agg_inv
      obtain ⟨u, hu, hr⟩ := part_sound hl hv
      exact ⟨u, fun w => by simp [Instr.index, asIntOf, run_underlying ht, hc, run_sizeOf hk, hu], hr⟩
    · simp at hv
  · simp at hv

theorem extract_sound {x ux v : Value} {i : Nat} (hx : VR ι x ux) (hv : extractV x i = some v) : ∃ u, (∀ w : World, (Instr.extract ux i).run P w = .ok u w) ∧ VR ι v u := by
  unfold extractV at hv
  split at hv
  · rename_i vs
    obtain ⟨us, rfl, hl⟩ := hx.tuple_inv (by rintro rfl; simp at hv)
    obtain ⟨u, hu, hr⟩ := hl.get i v hv
    have hu' : us[i]? = some u := by simpa using hu
    exact ⟨u, fun w => by simp [Instr.extract, hu'], .one hr⟩
  · simp at hv

theorem nilCheck_sound {x ux v : Value} (hx : VR ι x ux) (hv : nilCheckV x = some v) : x = v ∧ ((∃ a, ux = .pointer (some a)) ∨ ∃ f a b, ux = .func (.func f) a b) := by
  unfold nilCheckV at hv
  split at hv
  · simp at hv; subst hv
    have hf := hx.flat_inv trivial
    cases hf with
    | base hb => cases hb; exact ⟨rfl, .inl ⟨_, rfl⟩⟩
  · rename_i f a b
    simp at hv; subst hv
    have hf := hx.flat_inv trivial
    refine ⟨rfl, .inr ?_⟩
    generalize hg : Value.func (.func f) a b = g at hf
    cases hf with
    | base hb => subst hg; cases hb
    | func fn h1 h2 => simp at hg; obtain ⟨rfl, _, _⟩ := hg; exact ⟨_, _, _, rfl⟩
  · simp at hv
end Go.V
end

section
/- The layer V, part 7: building, slicing, operators, conversions. -/
namespace Go.V
open Go Go.RowKit
variable {P : Program} [Laid P] {B0 : Nat} {ι : List Place} {h : Heap} {w : World}

theorem alloc_sound (r : Rel P B0 ι h w) {t : TypeId} {k : TK} (hk : tk P t = some k) :
    Lands P B0 ι w (Instr.alloc t true (.tuple #[])) (.pointer (some ⟨h.length, 0, none⟩)) (h ++ [some ⟨k.zero, t, false, true⟩]) := by
  obtain ⟨i, z0, d, hi, hd, hz0, hzc0, hsz, hby, hcl, hzl, hs0, hb0, hkd, hag, hfok⟩ := tk_info hk
  obtain ⟨z, hz, hzr⟩ := run_zeroValue hk
  have hn := r.new (ex := true) hk (L2.closed (ι := ι) hcl)
  refine ⟨.pointer (some ⟨w.heap.size, 0, none⟩), _, _, ?_, ?_, hn, List.prefix_append _ _, Below.of_alloc r.base _⟩
  · simp [Instr.alloc, hzr, newVar, newRow, ← hz]
  · exact .one (.flat (.base (BR.ptr (p := ⟨w.heap.size, 0, 0⟩) (by rw [← r.len]; simp))))

theorem box_sound (r : Rel P B0 ι h w) {t : TypeId} {k : TK} (hk : tk P t = some k) {x ux : Value} {cs : List Value} (hx : VR ι x ux) (hc : cellsV x = some cs) :
    Lands P B0 ι w (Instr.box t ux) (.pointer (some ⟨h.length, 0, none⟩)) (h ++ [some ⟨cs, t, false, true⟩]) := by
  obtain ⟨h1, h2⟩ := cellsV_inv hx hc
  have hn := r.new (ex := true) hk h1
  refine ⟨.pointer (some ⟨w.heap.size, 0, none⟩), _, _, ?_, ?_, hn, List.prefix_append _ _, Below.of_alloc r.base _⟩
  · simp [Instr.box, newVar, newRow]
  · exact .one (.flat (.base (BR.ptr (p := ⟨w.heap.size, 0, 0⟩) (by rw [← r.len]; simp))))

theorem run_mapM_list {P : Program} {α β : Type} {F : α → Sem β} {g : α → β} : ∀ (l : List α) (w : World), (∀ a ∈ l, ∀ w, (F a).run P w = .ok (g a) w) → (l.mapM F).run P w = .ok (l.map g) w := by
  intro l
  induction l with
  | nil => intro w _; rfl
  | cons a l ih =>
    intro w hl
    simp [List.mapM_cons, hl a (by simp), ih w (fun b hb => hl b (by simp [hb]))]

theorem run_mapM_arr {P : Program} {α β : Type} {F : α → Sem β} {g : α → β} (l : Array α) (w : World) (hl : ∀ a ∈ l.toList, ∀ w, (F a).run P w = .ok (g a) w) : (l.mapM F).run P w = .ok (l.map g) w := by
  rw [Array.mapM_eq_mapM_toList]
  simp [run_mapM_list l.toList w hl]
  apply Array.ext'
  simp

theorem zeros_closed {k : TK} {t : Nat} (hk : tk P t = some k) {z : Value} (hz : z.cells.toList = k.zero) : L2 (FR ι) k.zero z.cells.toList := by
  obtain ⟨i, z0, d, hi, hd, hz0, hzc0, hsz, hby, hcl, hzl, hs0, hb0, hkd, hag, hfok⟩ := tk_info hk
  rw [hz]; exact L2.closed hcl

theorem build_sound {t : Nat} {parts uparts : List (Nat × Value)} {v : Value} (hp : L2 (fun a b : Nat × Value => a.1 = b.1 ∧ VR ι a.2 b.2) parts uparts) (hv : buildV P t parts = some v) :
    ∃ u, (∀ w : World, (Instr.build t uparts.toArray).run P w = .ok u w) ∧ VR ι v u := by
  unfold buildV at hv
  simp only [Option.bind_eq_some_iff] at hv
  obtain ⟨k, hk, hv⟩ := hv
  obtain ⟨z, hz, hzr⟩ := run_zeroValue hk
  obtain ⟨i, z0, d, hi, hd, hz0, hzc0, hsz, hby, hcl, hzl, hs0, hb0, hkd, hag, hfok⟩ := tk_info hk
  split at hv
  · rename_i h6
    split at hv
    · simp at hv
    · rename_i hf
      simp only [Bool.not_eq_true', Bool.not_eq_false] at hf
      simp only [Option.map_eq_some_iff] at hv
      obtain ⟨cs, hfill, rfl⟩ := hv
      obtain ⟨fs, rfl⟩ : ∃ fs, d = .struct fs := by
        rw [hkd] at h6
        cases d <;> simp_all [kindOf]
      have hpl : ∀ j x, fieldPl P t j = some x → (fs.map fun f => (f.offset, ((P.info? f.type).map (·.size)).getD 0))[j]? = some x := by
        intro j x hx
        unfold fieldPl at hx
        simp only [Option.bind_eq_some_iff, Option.map_eq_some_iff] at hx
        obtain ⟨⟨o, ft⟩, h1, kf, h2, rfl⟩ := hx
        obtain ⟨fs', fl, h3, h4, h5⟩ := tField_some h1
        rw [hd] at h3
        simp only [Option.some.injEq, TypeDesc.struct.injEq] at h3
        subst h3
        simp only [Prod.mk.injEq] at h5
        obtain ⟨rfl, rfl⟩ := h5
        obtain ⟨i2, _, _, hi2, _, _, _, hsz2, _⟩ := tk_info h2
        simp [h4, hi2, hsz2]
      have hfill2 : ∀ (parts : List (Nat × Value)) (cells : List Value), fillV (fieldPl P t) cells parts = some cs → fillV (fun j => (fs.map fun f => (f.offset, ((P.info? f.type).map (·.size)).getD 0))[j]?) cells parts = some cs := by
        intro parts
        induction parts with
        | nil => intro cells h; simpa [fillV] using h
        | cons x rest ih =>
          intro cells h
          obtain ⟨j, v⟩ := x
          simp only [fillV] at h ⊢
          split at h
          · rename_i off size ccs h1 h2
            rw [hpl j _ h1, h2]
            simp only []
            split at h
            · rename_i hc
              rw [if_pos hc]; exact ih _ h
            · simp at h
          · simp at h
      obtain ⟨us, hus, hr⟩ := fill_sound hp (zeros_closed (ι := ι) hk hz) (hfill2 _ _ hfill)
      refine ⟨.agg us, fun w => ?_, by have := VR.one (AR.agg hr); simpa using this⟩
      have hm := run_mapM_arr (P := P) (F := fun f : Field => do pure (f.offset, ← sizeOf f.type)) (g := fun f => (f.offset, ((P.info? f.type).map (·.size)).getD 0)) fs w (by
        intro f hfm w
        obtain ⟨i, hi⟩ := Option.isSome_iff_exists.1 (hfok hf fs rfl f hfm)
        simp [sizeOf, typeInfo, hi])
      simp only [Instr.build, Sem.run_bind, hzr, Result.andThen_ok, run_underlying hd]
      rw [hm]
      simp only [Result.andThen_ok]
      rw [hus]
      rfl
  · simp only [Option.bind_eq_some_iff, Option.map_eq_some_iff] at hv
    obtain ⟨⟨n, el⟩, hel, ke, hke, cs, hfill, rfl⟩ := hv
    have ht := tArr_some hel
    obtain ⟨us, hus, hr⟩ := fill_sound hp (zeros_closed (ι := ι) hk hz) hfill
    refine ⟨.agg us, fun w => ?_, by have := VR.one (AR.agg hr); simpa using this⟩
    simp only [Instr.build, Sem.run_bind, hzr, Result.andThen_ok, run_underlying ht, run_sizeOf hke]
    simp [hus]

theorem buildSlice_sound (r : Rel P B0 ι h w) {t n : Nat} {parts uparts : List (Nat × Value)} {v : Value} {h' : Heap} (hp : L2 (fun a b : Nat × Value => a.1 = b.1 ∧ VR ι a.2 b.2) parts uparts)
    (hv : buildSliceV P t n parts h = some (v, h')) : Lands P B0 ι w (Instr.buildSlice t n uparts.toArray) v h' := by
  unfold buildSliceV at hv
  simp only [Option.bind_eq_some_iff] at hv
  obtain ⟨el, hel, k, hk, hv⟩ := hv
  have ht := tElem_some hel
  obtain ⟨z, hz, hzr⟩ := run_zeroValue hk
  obtain ⟨i, z0, d, hi, hd, hz0, hzc0, hsz, hby, hcl, hzl, hs0, hb0, hkd, hag, hfok⟩ := tk_info hk
  split at hv
  · rename_i hle
    simp only [Option.map_eq_some_iff, Prod.mk.injEq] at hv
    obtain ⟨cs, hfill, rfl, rfl⟩ := hv
    have hzs : z.cells.size = k.size := by rw [← Array.length_toList, hz, hzl]
    have hz2 : ((Array.range (n * k.size)).map (z.cells[· % z.cells.size]!)).toList = rep n k.zero := by
      rw [← hz, ← hzs]; exact madeCells_rep z.cells n
    have hz1 : L2 (FR ι) (rep n k.zero) ((Array.range (n * k.size)).map (z.cells[· % z.cells.size]!)).toList := by
      rw [hz2]; exact L2.closed (closed_rep hcl)
    obtain ⟨us, hus, hr⟩ := fill_sound hp hz1 hfill
    have hn := r.new (ex := true) hk hr
    refine ⟨.slice (some ⟨w.heap.size, 0, none⟩) n n, _, _, ?_, ?_, hn, List.prefix_append _ _, Below.of_alloc r.base _⟩
    · have hle' : ¬ (2 ^ 24 < n * k.size) := by omega
      by_cases h0 : n * k.size = 0
      · simp only [Instr.buildSlice, Sem.run_bind, run_underlying ht, Result.andThen_ok, run_sizeOf hk]
        have hr0 : ((Array.range (n * k.size)).map ((#[] : Array Value)[· % (#[] : Array Value).size]!)) = ((Array.range (n * k.size)).map (z.cells[· % z.cells.size]!)) := by rw [h0]; simp
        simp only [if_neg hle', h0, if_true]
        simp only [h0] at hus hr0
        simp [← hr0] at hus
        simp [hus, newRow]
      · simp only [Instr.buildSlice, Sem.run_bind, run_underlying ht, Result.andThen_ok, run_sizeOf hk, gt_iff_lt]
        simp only [if_neg hle', if_neg h0, Sem.run_bind, hzr, Result.andThen_ok, Sem.run_pure]
        simp [hus, newRow]
    · refine .one (.flat (.base ?_))
      by_cases hn0 : n = 0
      · subst hn0
        exact .slice0 (p := ⟨w.heap.size, 0, 0⟩) (by rw [← r.len]; simp) (.inl rfl)
      · have := BR.slice (ι := ι ++ [⟨w.heap.size, 0, 0⟩]) (b := h.length) (off := 0) (len := n) (cap := n) (p := ⟨w.heap.size, 0, 0⟩) (by rw [← r.len]; simp) (by omega)
        simpa using this
  · simp at hv

end Go.V
end

section
/- The layer V, part 8: slicing, operators, conversions, copy, max, min. -/
namespace Go.V
open Go Go.RowKit
variable {P : Program} [Laid P] {B0 : Nat} {ι : List Place} {h : Heap} {w : World}

theorem bound_sound {x ux : Value} {hi m : Nat} {code : BoundsCode} (hx : VR ι x ux) (hb : boundV x hi = some m) : m ≤ hi ∧ ∀ w : World, (Instr.sliceBound ux hi code).run P w = .ok m w := by
  unfold boundV at hb
  split at hb
  · rename_i k i
    have := hx.int_eq; subst this
    split at hb
    · rename_i hc
      simp only [Option.some.injEq] at hb; subst hb
      exact ⟨by omega, fun w => by simp [Instr.sliceBound, asIntOf, hc]⟩
    · simp at hb
  · simp at hb

/-- Both bounds. -/
theorem bounds_sound {e : Env} {ρ : Operand → Value} {lo hi : Option Operand} {cap len m l capM : Nat} {isS : Bool} (hρ : ∀ x, (lo = some x ∨ hi = some x) → VR ι (evO e x) (ρ x)) (h1 : hiV e hi cap len = some m) (h2 : loV e lo m = some l)
    (hcap : cap ≤ capM) : l ≤ m ∧ (hi = none → m = len) ∧ (m ≤ cap ∨ m = len) ∧ ∀ w : World, (Instr.sliceBounds isS len capM (lo.map ρ) (hi.map ρ) none).run P w = .ok (l, m, capM) w := by
  have hH : (hi = none → m = len) ∧ (m ≤ cap ∨ m = len) ∧ ∀ w : World, (match hi.map ρ with | some v => Instr.sliceBound v capM (if isS then .sliceAcap else .sliceAlen) | none => pure len : Sem Nat).run P w = .ok m w := by
    cases hi with
    | none => simp [hiV] at h1; subst h1; exact ⟨fun _ => rfl, .inr rfl, fun w => by simp⟩
    | some x =>
      simp only [hiV] at h1
      unfold boundV at h1
      have hv := hρ x (.inr rfl)
      split at h1
      · rename_i k i he
        rw [he] at hv
        have := hv.int_eq
        split at h1
        · rename_i hc
          simp only [Option.some.injEq] at h1
          refine ⟨by simp, .inl (by omega), fun w => ?_⟩
          have hc' : 0 ≤ i ∧ i ≤ capM := ⟨hc.1, by omega⟩
          simp [this, Instr.sliceBound, asIntOf, hc', h1]
        · simp at h1
      · simp at h1
  obtain ⟨ha, hb, hr⟩ := hH
  cases lo with
  | none =>
    simp [loV] at h2; subst h2
    refine ⟨Nat.zero_le _, ha, hb, fun w => ?_⟩
    unfold Instr.sliceBounds
    cases hi <;> simp at hr ⊢ <;> simp [hr]
  | some x =>
    simp only [loV] at h2
    obtain ⟨h3, h4⟩ := bound_sound (P := P) (code := .sliceB) (hρ x (.inl rfl)) h2
    refine ⟨h3, ha, hb, fun w => ?_⟩
    unfold Instr.sliceBounds
    cases hi <;> simp at hr ⊢ <;> simp [hr, h4]

theorem run_slice_gen {t el : TypeId} {k : TK} (ht : P.underlying t = some (.slice el)) (hk : tk P el = some k) {A : Option Addr} {len cap l m M : Nat} {lo hi : Option Value} (w : World)
    (hb : (Instr.sliceBounds true len cap lo hi none).run P w = .ok (l, m, M) w) :
    (Instr.sliceAt t (.slice A len cap) lo hi none).run P w = .ok (.slice (if M = l then A else A.map (·.add (l * k.size))) (m - l) (M - l)) w := by
  simp [Instr.sliceAt, Instr.slice, run_underlying ht, hb, run_sizeOf hk]

theorem slice_sound {e : Env} {ρ : Operand → Value} {t : TypeId} {x ux v : Value} {lo hi : Option Operand} (hx : VR ι x ux) (hρ : ∀ y, (lo = some y ∨ hi = some y) → VR ι (evO e y) (ρ y)) (hv : sliceV P t e x lo hi = some v) :
    ∃ u, (∀ w : World, (Instr.sliceAt t ux (lo.map ρ) (hi.map ρ) none).run P w = .ok u w) ∧ VR ι v u := by
  unfold sliceV at hv
  split at hv
  · rename_i s
    have := hx.string_eq; subst this
    split at hv
    · rename_i hk
      have ht := kind_str hk
      simp only [Option.bind_eq_some_iff, Option.map_eq_some_iff] at hv
      obtain ⟨m, h1, l, h2, rfl⟩ := hv
      obtain ⟨_, _, _, hb⟩ := bounds_sound (P := P) (isS := false) hρ h1 h2 (Nat.le_refl _)
      exact ⟨.string (s.extract l m), fun w => by simp [Instr.sliceAt, Instr.slice, run_underlying ht, hb], .closed rfl⟩
    · simp at hv
  · rename_i A len cap
    simp only [Option.bind_eq_some_iff] at hv
    obtain ⟨el, hel, k, hk, m, h1, l, h2, hv⟩ := hv
    by_cases hmc : m ≤ cap
    case neg => rw [if_neg hmc] at hv; simp at hv
    rw [if_pos hmc] at hv
    simp only [Option.some.injEq] at hv; subst hv
    have ht := tElem_some hel
    have hs0 : 0 < k.size := by obtain ⟨_, _, _, _, _, _, _, _, _, _, _, hs0, _⟩ := tk_info hk; exact hs0
    have hf := hx.flat_inv trivial
    cases hf with
    | base hb =>
      cases hb with
      | nils =>
        obtain ⟨g1, g2, g3, hb⟩ := bounds_sound (P := P) (isS := true) hρ h1 h2 (Nat.le_refl 0)
        have : m = 0 := by omega
        subst this
        have : l = 0 := by omega
        subst this
        exact ⟨.slice none 0 0, fun w => by rw [run_slice_gen ht hk w (hb w)]; rfl, hx⟩
      | @slice b off _ _ p hp hc =>
        obtain ⟨g1, g2, g3, hb⟩ := bounds_sound (P := P) (isS := true) hρ h1 h2 (Nat.le_add_right cap p.slack)
        by_cases hcl : l < cap
        · refine ⟨.slice (some ⟨p.blk, p.base + off + l * k.size, none⟩) (m - l) (cap + p.slack - l), fun w => ?_, .one (.flat (.base ?_))⟩
          · have hne : ¬ (cap + p.slack = l) := by omega
            rw [run_slice_gen ht hk w (hb w), if_neg hne]; simp [addr_add]
          · have := BR.slice (ι := ι) (off := off + l * k.size) (len := m - l) (cap := cap - l) hp (by omega)
            have e1 : cap - l + p.slack = cap + p.slack - l := by omega
            rw [e1, ← Nat.add_assoc] at this
            exact this
        · have : l = cap := by omega
          subst this
          have : m = l := by omega
          subst this
          have e0 : m - m = 0 := by omega
          rw [e0]
          by_cases hsl : p.slack = 0
          · refine ⟨.slice (some ⟨p.blk, p.base + off, none⟩) 0 0, fun w => ?_, .one (.flat (.base (.slice0 hp (.inl rfl))))⟩
            rw [run_slice_gen ht hk w (hb w), if_pos (by omega)]; simp [hsl]
          · refine ⟨.slice (some ⟨p.blk, p.base + (off + m * k.size), none⟩) 0 p.slack, fun w => ?_, .one (.flat (.base (.slice0 hp (.inr ⟨rfl, rfl⟩))))⟩
            have hne : ¬ (m + p.slack = m) := by omega
            rw [run_slice_gen ht hk w (hb w), if_neg hne]; simp [addr_add, Nat.add_assoc]
      | @slice0 b off a c p hp hc =>
        obtain ⟨g1, g2, g3, hb⟩ := bounds_sound (P := P) (isS := true) hρ h1 h2 (Nat.zero_le c)
        have : m = 0 := by omega
        subst this
        have : l = 0 := by omega
        subst this
        refine ⟨.slice (some a) 0 c, fun w => ?_, by simpa using hx⟩
        have e : a.add 0 = a := by simp [Addr.add]
        by_cases hc0 : c = 0
        · rw [run_slice_gen ht hk w (hb w), if_pos hc0]; simp
        · rw [run_slice_gen ht hk w (hb w), if_neg hc0]; simp [e]
  · simp at hv
end Go.V
end

section
/- The layer V, part 9: operators, conversions, copy, max, min. -/
namespace Go.V
open Go Go.RowKit
variable {P : Program} [Laid P] {B0 : Nat} {ι : List Place} {h : Heap} {w : World}

theorem intV_sound {op : BinOp} {k : IntKind} {a b : Int} {v : Value} (hv : intV op k a b = some v) (hns : op ≠ .shl ∧ op ≠ .shr) (t : TypeId) : closed1 v = true ∧ ∀ w : World, (binOp op t (.int k a) (.int k b)).run P w = .ok v w := by
  cases op with
  | shl => simp at hns
  | shr => simp at hns
  | add => simp only [intV, Option.some.injEq] at hv; subst hv; exact ⟨rfl, fun w => by simp [binOp, Op.intArith]⟩
  | sub => simp only [intV, Option.some.injEq] at hv; subst hv; exact ⟨rfl, fun w => by simp [binOp, Op.intArith]⟩
  | mul => simp only [intV, Option.some.injEq] at hv; subst hv; exact ⟨rfl, fun w => by simp [binOp, Op.intArith]⟩
  | quo => simp [intV] at hv; obtain ⟨h0, rfl⟩ := hv; exact ⟨rfl, fun w => by simp [binOp, Op.intDiv, h0]⟩
  | rem => simp [intV] at hv; obtain ⟨h0, rfl⟩ := hv; exact ⟨rfl, fun w => by simp [binOp, Op.intDiv, h0]⟩
  | and => simp only [intV, bitsV, Option.some.injEq] at hv; subst hv; exact ⟨rfl, fun w => by simp only [binOp, ne_eq, not_true_eq_false, if_false, Op.intBits, Sem.run_pure]⟩
  | or => simp only [intV, bitsV, Option.some.injEq] at hv; subst hv; exact ⟨rfl, fun w => by simp only [binOp, ne_eq, not_true_eq_false, if_false, Op.intBits, Sem.run_pure]⟩
  | xor => simp only [intV, bitsV, Option.some.injEq] at hv; subst hv; exact ⟨rfl, fun w => by simp only [binOp, ne_eq, not_true_eq_false, if_false, Op.intBits, Sem.run_pure]⟩
  | andNot => simp only [intV, bitsV, Option.some.injEq] at hv; subst hv; exact ⟨rfl, fun w => by simp only [binOp, ne_eq, not_true_eq_false, if_false, Op.intBits, Sem.run_pure]⟩
  | eql => simp only [intV, Option.some.injEq] at hv; subst hv; exact ⟨rfl, fun w => by simp only [binOp, ne_eq, not_true_eq_false, if_false, Op.intCmp, Sem.run_pure]; rfl⟩
  | neq => simp only [intV, Option.some.injEq] at hv; subst hv; exact ⟨rfl, fun w => by simp only [binOp, ne_eq, not_true_eq_false, if_false, Op.intCmp, Sem.run_pure]; rfl⟩
  | lss => simp only [intV, Option.some.injEq] at hv; subst hv; exact ⟨rfl, fun w => by simp only [binOp, ne_eq, not_true_eq_false, if_false, Op.intCmp, Sem.run_pure]⟩
  | leq => simp only [intV, Option.some.injEq] at hv; subst hv; exact ⟨rfl, fun w => by simp only [binOp, ne_eq, not_true_eq_false, if_false, Op.intCmp, Sem.run_pure]⟩
  | gtr => simp only [intV, Option.some.injEq] at hv; subst hv; exact ⟨rfl, fun w => by simp only [binOp, ne_eq, not_true_eq_false, if_false, Op.intCmp, Sem.run_pure, gt_iff_lt]⟩
  | geq => simp only [intV, Option.some.injEq] at hv; subst hv; exact ⟨rfl, fun w => by simp only [binOp, ne_eq, not_true_eq_false, if_false, Op.intCmp, Sem.run_pure, ge_iff_le]⟩

theorem shiftV_sound {op : BinOp} {k k' : IntKind} {a b : Int} {v : Value} (hv : shiftV op k a b = some v) (t : TypeId) : closed1 v = true ∧ ∀ w : World, (binOp op t (.int k a) (.int k' b)).run P w = .ok v w := by
  unfold shiftV at hv
  split at hv
  · simp at hv
  · rename_i hb
    cases op <;> simp at hv <;> (subst hv; exact ⟨rfl, fun w => by simp [binOp, Op.shift, hb]⟩)

theorem strV_sound {op : BinOp} {a b : ByteArray} {v : Value} (hv : strV op a b = some v) (t : TypeId) : closed1 v = true ∧ ∀ w : World, (binOp op t (.string a) (.string b)).run P w = .ok v w := by
  cases op <;> simp only [strV] at hv <;> first
    | (simp at hv; done)
    | (simp only [Option.some.injEq] at hv; subst hv; exact ⟨rfl, fun w => by simp [binOp, Op.stringOp]⟩)
    | (split at hv
       · simp at hv
       · rename_i hc
         simp only [Option.some.injEq] at hv; subst hv
         exact ⟨rfl, fun w => by simp only [binOp, Op.stringOp, if_neg hc, Sem.run_pure]⟩)

theorem eqGuard_flat {op : BinOp} {t : TypeId} {x y : Operand} {a b : Value} (h1 : ¬ (a = .nilIface ∧ b = .nilIface)) (h2 : ¬ ((∃ c, a = .agg c) ∧ ∃ c, b = .agg c)) (w : World) : (eqGuard op t x y a b).run P w = .ok () w := by
  cases op <;> simp [eqGuard]
  all_goals
    cases a <;> try rfl
    · cases b <;> first | rfl | exact absurd ⟨rfl, rfl⟩ h1
    · cases b <;> first | rfl | exact absurd ⟨⟨_, rfl⟩, ⟨_, rfl⟩⟩ h2

theorem tk_kind {t : TypeId} {n : Nat} (hk : ((tk P t).map (·.kind)).getD 0 = n) (h0 : n ≠ 0) : ∃ d, P.underlying t = some d ∧ kindOf d = n := by
  cases hh : tk P t with
  | none => simp [hh] at hk; omega
  | some k =>
    obtain ⟨i, z, d, hi, hd, hz, hzc, hsz, hby, hcl, hzl, hs0, hb0, hkd, _⟩ := tk_info hh
    exact ⟨d, hd, by simp [hh] at hk; rw [← hkd]; exact hk⟩

theorem BR.of_flat {v u : Value} (r : FR ι v u) (h : ∀ fn a b, v ≠ .func fn a b) : BR ι v u := by
  cases r with
  | base r => exact r
  | func fn h1 h2 => exact absurd rfl (h _ _ _)

theorem equalIn_sound {kind : Nat} {t : TypeId} {x y ux uy : Value} {b : Bool} (hk : ((tk P t).map (·.kind)).getD 0 = kind) (hx : VR ι x ux) (hy : VR ι y uy) (hv : eqV kind x y = some b) (d : Nat) (w : World) :
    (Op.equalIn (d + 1) t ux uy).run P w = .ok b w := by
  unfold eqV at hv
  split at hv
  · rename_i a c
    obtain ⟨d, hd, hkd⟩ := tk_kind hk (by decide)
    obtain rfl : d = .bool := by cases d <;> simp_all [kindOf]
    have := hx.bool_eq; subst this
    have := hy.bool_eq; subst this
    simp at hv; subst hv
    simp [Op.equalIn, run_underlying hd]
  · rename_i b'
    obtain ⟨d, hd, hkd⟩ := tk_kind hk (by decide)
    obtain ⟨e, rfl⟩ : ∃ e, d = .pointer e := by cases d <;> simp_all [kindOf]
    simp at hv; subst hv
    replace hx := BR.of_flat (hx.flat_inv trivial) (by simp)
    cases hx
    have hy := hy.flat_inv trivial
    cases hy with | base hy => cases hy <;> simp [Op.equalIn, run_underlying hd]
  · obtain ⟨d, hd, hkd⟩ := tk_kind hk (by decide)
    obtain ⟨e, rfl⟩ : ∃ e, d = .pointer e := by cases d <;> simp_all [kindOf]
    simp at hv; subst hv
    replace hx := BR.of_flat (hx.flat_inv trivial) (by simp)
    cases hx
    have hy := hy.flat_inv trivial
    cases hy with | base hy => cases hy <;> simp [Op.equalIn, run_underlying hd]
  · obtain ⟨d, hd, hkd⟩ := tk_kind hk (by decide)
    obtain ⟨e, rfl⟩ : ∃ e, d = .slice e := by cases d <;> simp_all [kindOf]
    simp at hv; subst hv
    replace hx := BR.of_flat (hx.flat_inv trivial) (by simp)
    cases hx
    have hy := hy.flat_inv trivial
    cases hy with | base hy => cases hy <;> simp [Op.equalIn, run_underlying hd]
  · obtain ⟨d, hd, hkd⟩ := tk_kind hk (by decide)
    obtain ⟨e, rfl⟩ : ∃ e, d = .slice e := by cases d <;> simp_all [kindOf]
    simp at hv; subst hv
    replace hy := BR.of_flat (hy.flat_inv trivial) (by simp)
    cases hy
    have hx := hx.flat_inv trivial
    cases hx with | base hx => cases hx <;> simp [Op.equalIn, run_underlying hd]
  · obtain ⟨d, hd, hkd⟩ := tk_kind hk (by decide)
    obtain ⟨e, rfl⟩ : ∃ e, d = .interface e := by cases d <;> simp_all [kindOf]
    simp at hv; subst hv
    replace hx := BR.of_flat (hx.flat_inv trivial) (by simp)
    cases hx
    have hy := hy.flat_inv trivial
    cases hy with | base hy => cases hy <;> simp [Op.equalIn, run_underlying hd]
  · obtain ⟨d, hd, hkd⟩ := tk_kind hk (by decide)
    obtain ⟨e, rfl⟩ : ∃ e, d = .interface e := by cases d <;> simp_all [kindOf]
    simp at hv; subst hv
    replace hy := BR.of_flat (hy.flat_inv trivial) (by simp)
    cases hy
    have hx := hx.flat_inv trivial
    cases hx with | base hx => cases hx <;> simp [Op.equalIn, run_underlying hd]
  · obtain ⟨d, hd, hkd⟩ := tk_kind hk (by decide)
    obtain ⟨e1, e2, e3, rfl⟩ : ∃ e1 e2 e3, d = .func e1 e2 e3 := by cases d <;> simp_all [kindOf]
    simp at hv; subst hv
    replace hx := BR.of_flat (hx.flat_inv trivial) (by simp)
    cases hx
    have hy := hy.flat_inv trivial
    cases hy with | base hy => cases hy <;> simp [Op.equalIn, run_underlying hd]
  · obtain ⟨d, hd, hkd⟩ := tk_kind hk (by decide)
    obtain ⟨e1, e2, e3, rfl⟩ : ∃ e1 e2 e3, d = .func e1 e2 e3 := by cases d <;> simp_all [kindOf]
    simp at hv; subst hv
    replace hx := BR.of_flat (hx.flat_inv trivial) (by simp)
    cases hx
    have hy := hy.flat_inv trivial
    generalize hg : Value.func _ _ _ = g at hy
    cases hy with
    | base hy => subst hg; cases hy
    | func fn h1 h2 => simp [Op.equalIn, run_underlying hd]
  · obtain ⟨d, hd, hkd⟩ := tk_kind hk (by decide)
    obtain ⟨e1, e2, e3, rfl⟩ : ∃ e1 e2 e3, d = .func e1 e2 e3 := by cases d <;> simp_all [kindOf]
    simp at hv; subst hv
    replace hy := BR.of_flat (hy.flat_inv trivial) (by simp)
    cases hy
    have hx := hx.flat_inv trivial
    generalize hg : Value.func _ _ _ = g at hx
    cases hx with
    | base hx => subst hg; cases hx
    | func fn h1 h2 => simp [Op.equalIn, run_underlying hd]
  · simp at hv

def eqForm : Value → Bool
  | .bool _ | .pointer _ | .slice _ _ _ | .nilIface | .iface _ _ | .nilFunc | .func _ _ _ => true
  | _ => false

theorem eqForm_VR {v u : Value} (r : VR ι v u) (h : eqForm v = true) : eqForm u = true ∧ (u = .nilIface → v = .nilIface) := by
  have r := r.flat_inv (by cases v <;> simp_all [eqForm])
  cases r with
  | base r => cases r <;> simp_all [eqForm]
  | func => simp_all [eqForm]

theorem eqV_form {kind : Nat} {x y : Value} {b : Bool} (hv : eqV kind x y = some b) : eqForm x = true ∧ eqForm y = true ∧ ¬ (x = .nilIface ∧ y = .nilIface) := by
  unfold eqV at hv
  split at hv <;> simp_all [eqForm]

/-- What eqV asks of the operands' forms. -/
theorem eqV_forms {kind : Nat} {x y ux uy : Value} {b : Bool} (hx : VR ι x ux) (hy : VR ι y uy) (hv : eqV kind x y = some b) :
    ¬ (ux = .nilIface ∧ uy = .nilIface) ∧ ¬ ((∃ c, ux = .agg c) ∧ ∃ c, uy = .agg c) ∧
      (∀ t, binOp .eql t ux uy = (do pure (.bool (← Op.equal t ux uy)))) ∧ (∀ t, binOp .neq t ux uy = (do pure (.bool (!(← Op.equal t ux uy))))) := by
  obtain ⟨k1, k2, k3⟩ := eqV_form hv
  obtain ⟨f1, f2⟩ := eqForm_VR hx k1
  obtain ⟨g1, g2⟩ := eqForm_VR hy k2
  refine ⟨fun ⟨a, b⟩ => k3 ⟨f2 a, g2 b⟩, ?_, ?_, ?_⟩
  · rintro ⟨⟨c, rfl⟩, _⟩; simp [eqForm] at f1
  · intro t; cases ux <;> simp [eqForm] at f1 <;> cases uy <;> simp [eqForm] at g1 <;> rfl
  · intro t; cases ux <;> simp [eqForm] at f1 <;> cases uy <;> simp [eqForm] at g1 <;> rfl

theorem bin_sound {op : BinOp} {t : TypeId} {x y ux uy v : Value} {xo yo : Operand} (hx : VR ι x ux) (hy : VR ι y uy) (hv : binV op (((tk P t).map (·.kind)).getD 0) x y = some v) :
    closed1 v = true ∧ ∀ w : World, ((do eqGuard op t xo yo ux uy; binOp op t ux uy : Sem Value)).run P w = .ok v w := by
  unfold binV at hv
  split at hv
  · rename_i k a k' b
    have := hx.int_eq; subst this
    have := hy.int_eq; subst this
    have hg := fun w => eqGuard_flat (P := P) (op := op) (t := t) (x := xo) (y := yo) (a := .int k a) (b := .int k' b) (by simp) (by simp) w
    suffices hh : closed1 v = true ∧ ∀ w : World, (binOp op t (.int k a) (.int k' b)).run P w = .ok v w from ⟨hh.1, fun w => by rw [Sem.run_bind, hg]; exact hh.2 w⟩
    split at hv
    · exact shiftV_sound hv t
    · exact shiftV_sound hv t
    · rename_i h1 h2
      split at hv
      · rename_i hkk; subst hkk
        exact intV_sound hv ⟨h1, h2⟩ t
      · simp at hv
  · rename_i a b
    have := hx.string_eq; subst this
    have := hy.string_eq; subst this
    have hg := fun w => eqGuard_flat (P := P) (op := op) (t := t) (x := xo) (y := yo) (a := .string a) (b := .string b) (by simp) (by simp) w
    obtain ⟨h1, h2⟩ := strV_sound (P := P) hv t
    exact ⟨h1, fun w => by rw [Sem.run_bind, hg]; exact h2 w⟩
  · split at hv
    · simp only [Option.map_eq_some_iff] at hv
      obtain ⟨b, hb, rfl⟩ := hv
      obtain ⟨f1, f2, f3, f4⟩ := eqV_forms hx hy hb
      refine ⟨rfl, fun w => ?_⟩
      rw [Sem.run_bind, eqGuard_flat f1 f2, Result.andThen_ok, f3]
      have : (Op.equal t ux uy).run P w = .ok b w := equalIn_sound rfl hx hy hb 9999 w
      simp [this]
    · simp only [Option.map_eq_some_iff] at hv
      obtain ⟨b, hb, rfl⟩ := hv
      obtain ⟨f1, f2, f3, f4⟩ := eqV_forms hx hy hb
      refine ⟨rfl, fun w => ?_⟩
      rw [Sem.run_bind, eqGuard_flat f1 f2, Result.andThen_ok, f4]
      have : (Op.equal t ux uy).run P w = .ok b w := equalIn_sound rfl hx hy hb 9999 w
      simp [this]
    · simp at hv

theorem un_sound {op : UnOp} {x ux v : Value} (hx : VR ι x ux) (hv : unV op x = some v) : closed1 v = true ∧ ∀ w : World, (Op.unary op ux).run P w = .ok v w := by
  unfold unV at hv
  split at hv
  · have := hx.int_eq; subst this
    simp only [Option.some.injEq] at hv; subst hv
    exact ⟨rfl, fun w => by simp [Op.unary, Op.intArith]⟩
  · have := hx.bool_eq; subst this
    simp only [Option.some.injEq] at hv; subst hv
    exact ⟨rfl, fun w => by simp [Op.unary]⟩
  · have := hx.int_eq; subst this
    simp only [bitsV, Option.some.injEq] at hv; subst hv
    exact ⟨rfl, fun w => by simp only [Op.unary, Op.intBits, Sem.run_pure]⟩
  · simp at hv

end Go.V
end

section
/- The layer V, part 10: conversions, copy, max, min. -/
namespace Go.V
open Go Go.RowKit
variable {P : Program} [Laid P] {B0 : Nat} {ι : List Place} {h : Heap} {w : World}

theorem tk_under {t : TypeId} {k : TK} (hk : tk P t = some k) : ∃ d, P.underlying t = some d := by
  obtain ⟨i, z, d, hi, hd, _⟩ := tk_info hk
  exact ⟨d, hd⟩

/-- A world with one block more. -/
theorem Rel.newW (r : Rel P B0 ι h w) {w' : World} {cs : List Value} {arr : Array Value} {fz : Nat × Nat} {t slack : Nat} {k : TK} {ex : Bool} (hk : tk P t = some k) (hBel : Below B0 w w') (hsz : w'.heap.size = w.heap.size + 1) (hold : ∀ j, j < w.heap.size → w'.heap[j]? = w.heap[j]?)
    (hnew : w'.heap[w.heap.size]? = some (.cells arr t fz)) (hfz : ∀ i, i < arr.size → ¬ (fz.1 ≤ i ∧ i < fz.2)) (hcs : ∀ (i : Nat) v, cs[i]? = some v → ∃ u, arr[i]? = some u ∧ FR ι v u) (hlen : arr.size = cs.length + slack * k.size) (hex : ex = true → slack = 0) :
    Rel P B0 (ι ++ [⟨w.heap.size, 0, slack⟩]) (h ++ [some ⟨cs, t, false, ex⟩]) w' := by
  generalize hq : (⟨w.heap.size, 0, slack⟩ : Place) = q
  have hpre : ι <+: ι ++ [q] := List.prefix_append _ _
  have holdp : ∀ b p, b < h.length → (ι ++ [q])[b]? = some p → ι[b]? = some p := by
    intro b p hb hp
    rwa [List.getElem?_append_left (by rw [r.len]; exact hb)] at hp
  have hnewp : ∀ p, (ι ++ [q])[h.length]? = some p → p = q := by
    intro p hp
    rw [← r.len] at hp
    simpa using hp.symm
  have hlt : ∀ b k p, getB h b = some k → ι[b]? = some p → p.blk < w.heap.size := by
    intro b k p hb hp
    obtain ⟨arr, fz, hh, _⟩ := r.blk b k p hb hp
    exact (Array.getElem?_eq_some_iff.1 hh).1
  refine ⟨by simp [r.len], by have := r.base; omega, fun w2 hB => r.glob w2 (hBel.trans hB), ?_, ?_⟩
  · intro b kb p hb hp
    rcases getB_append_cases hb with ⟨hb1, hb2⟩ | ⟨rfl, rfl⟩
    · have hp := holdp b p hb1 hp
      obtain ⟨arr, fz, hh, h1, h2, h3⟩ := r.blk b kb p hb2 hp
      refine ⟨arr, fz, ?_, fun i v hv => ?_, h2, h3⟩
      · rw [hold _ (Array.getElem?_eq_some_iff.1 hh).1]; exact hh
      · obtain ⟨u, hu, hr⟩ := h1 i v hv; exact ⟨u, hu, hr.pre hpre⟩
    · have := hnewp p hp
      subst this; subst hq
      refine ⟨arr, fz, hnew, fun i v hv => ?_, by simp, fun _ => ⟨r.base, hfz, ⟨k, hk, by simpa using hlen⟩, hex⟩⟩
      obtain ⟨u, hu, hr⟩ := hcs i v hv
      exact ⟨u, by simpa using hu, hr.pre hpre⟩
  · intro b b' kb kb' p p' hb hb' hp hp' hro hro' he
    rcases getB_append_cases hb with ⟨hb1, hb2⟩ | ⟨rfl, rfl⟩ <;> rcases getB_append_cases hb' with ⟨hb1', hb2'⟩ | ⟨rfl, rfl⟩
    · exact r.inj b b' kb kb' p p' hb2 hb2' (holdp b p hb1 hp) (holdp b' p' hb1' hp') hro hro' he
    · have := hlt b kb p hb2 (holdp b p hb1 hp)
      rw [hnewp p' hp'] at he; subst hq; simp at he; omega
    · have := hlt b' kb' p' hb2' (holdp b' p' hb1' hp')
      rw [hnewp p hp] at he; subst hq; simp at he; omega
    · rfl

theorem bytesV_eq : ∀ {cs us : List Value} {bs : List UInt8}, L2 (FR ι) cs us → bytesV cs = some bs → ∃ ns : List Int, us = ns.map (Value.int .u8) ∧ bs = ns.map fun n => UInt8.ofNat n.toNat := by
  intro cs
  induction cs with
  | nil =>
    intro us bs hl hb
    cases hl
    simp [bytesV] at hb; subst hb
    exact ⟨[], rfl, rfl⟩
  | cons v cs ih =>
    intro us bs hl hb
    cases hl with
    | @cons _ u _ m hr hrest =>
      unfold bytesV at hb
      split at hb
      · rename_i heq; simp at heq
      · rename_i n l heq
        simp only [List.cons.injEq] at heq
        obtain ⟨rfl, rfl⟩ := heq
        simp only [Option.map_eq_some_iff] at hb
        obtain ⟨bs', hb', rfl⟩ := hb
        obtain ⟨ns, rfl, rfl⟩ := ih hrest hb'
        have : u = .int .u8 n := FR.closed_eq rfl hr
        subst this
        exact ⟨n :: ns, rfl, rfl⟩
      · simp at hb

theorem foldl_push (ns : List Int) : ∀ s : ByteArray, ns.foldl (fun r n => r.push (UInt8.ofNat n.toNat)) s = ⟨(s.data.toList ++ ns.map fun n => UInt8.ofNat n.toNat).toArray⟩ := by
  induction ns with
  | nil => intro s; simp
  | cons n ns ih =>
    intro s
    rw [List.foldl_cons, ih]
    simp [ByteArray.push]

theorem conv_sound (r : Rel P B0 ι h w) {s t : TypeId} {x ux v : Value} {h' : Heap} (hx : VR ι x ux) (hv : convV P s t x h = some (v, h')) : Lands P B0 ι w (convert s t ux) v h' := by
  unfold convV at hv
  split at hv
  · rename_i k n
    have := hx.int_eq; subst this
    simp only [Option.bind_eq_some_iff, Option.map_eq_some_iff, Prod.mk.injEq] at hv
    obtain ⟨ks, hks, kt, hkt, rfl, rfl⟩ := hv
    obtain ⟨d, hd⟩ := tk_under hks
    have ht := tInt_some hkt
    refine Lands.same r (u := .int kt (kt.wrap n)) ?_ (.closed rfl)
    simp [convert, run_underlying hd, run_underlying ht, Conv.intToInt]
  · rename_i b
    have := hx.string_eq; subst this
    split at hv
    · rename_i hc
      simp only [Option.some.injEq, Prod.mk.injEq] at hv
      obtain ⟨rfl, rfl⟩ := hv
      refine Lands.same r (u := .string b) ?_ (.closed rfl)
      simp [convert, run_underlying (kind_str hc.1), run_underlying (kind_str hc.2)]
    · simp only [Option.bind_eq_some_iff] at hv
      obtain ⟨el, hel, hv⟩ := hv
      split at hv
      · rename_i hc
        obtain ⟨h1, h2, h3⟩ := hc
        simp only [Option.some.injEq, Prod.mk.injEq] at hv
        obtain ⟨rfl, rfl⟩ := hv
        obtain ⟨k, hk⟩ : ∃ k, tk P el = some k := by
          cases hh : tk P el with
          | none => simp [hh] at h3
          | some k => exact ⟨k, rfl⟩
        have hks : k.size = 1 := by simpa [hk] using h3
        have hrun := Lib.run_convert_string_bytes w s t el b (kind_str h1) (tElem_some hel) (tInt_some h2)
        have hg := grownCap_ge w b.size 0 el
        have hbs : (Lib.bytesCells w el b).size = b.size + (grownCap w b.size 0 el - b.size) := by simp [Lib.bytesCells]
        have hR := r.newW (w' := Lib.bytesWorld w el b) (cs := b.data.toList.map fun c => Value.int .u8 c.toNat) (slack := grownCap w b.size 0 el - b.size) (ex := false) hk ⟨rfl, rfl, rfl, by rw [Lib.bytesWorld_size]; omega, fun j hj => Lib.bytesWorld_at_old w el b j (by have := r.base; omega)⟩ (Lib.bytesWorld_size w el b) (fun j hj => Lib.bytesWorld_at_old w el b j hj) (Lib.bytesWorld_at_new w el b)
          (fun i hi => by omega) (fun i v hv => by
            refine ⟨v, ?_, .closed ?_⟩
            · rw [List.getElem?_map] at hv
              have hi : i < b.data.size := by
                rcases Nat.lt_or_ge i b.data.size with h | h
                · exact h
                · simp [Array.getElem?_eq_none h] at hv
              rw [Lib.bytesCells, Array.getElem?_append_left (by simpa using hi)]
              simpa using hv
            · rw [List.getElem?_map] at hv
              simp only [Option.map_eq_some_iff] at hv
              obtain ⟨_, _, rfl⟩ := hv
              rfl) (by rw [hbs, hks]; simp) (by simp)
        refine ⟨_, _, _, hrun, ?_, hR, List.prefix_append _ _, ⟨rfl, rfl, rfl, by rw [Lib.bytesWorld_size]; omega, fun j hj => Lib.bytesWorld_at_old w el b j (by have := r.base; omega)⟩⟩
        refine .one (.flat (.base ?_))
        have hget : (ι ++ [(⟨w.heap.size, 0, grownCap w b.size 0 el - b.size⟩ : Place)])[h.length]? = some ⟨w.heap.size, 0, grownCap w b.size 0 el - b.size⟩ := by rw [← r.len]; simp
        by_cases h0 : b.size = 0
        · rw [h0] at hget ⊢
          exact .slice0 hget (.inr ⟨rfl, by simp⟩)
        · have := BR.slice (off := 0) (len := b.size) (cap := b.size) hget (by omega)
          have e : b.size + (grownCap w b.size 0 el - b.size) = grownCap w b.size 0 el := by omega
          simpa [e] using this
      · simp at hv
  · rename_i A len cap
    simp only [Option.bind_eq_some_iff] at hv
    obtain ⟨el, hel, hv⟩ := hv
    have ht := tElem_some hel
    split at hv
    · rename_i hc
      obtain ⟨h1, h2, h3⟩ := hc
      simp only [Option.bind_eq_some_iff, Option.map_eq_some_iff, Prod.mk.injEq] at hv
      obtain ⟨cs, hcs, bs, hbs, rfl, rfl⟩ := hv
      have hcv : ∀ a l c (w : World), (convert s t (.slice a l c)).run P w = (Conv.bytesToString (.slice a l c)).run P w := fun a l c w => by
        simp [convert, run_underlying ht, run_underlying (kind_str h3), run_underlying (tInt_some h1)]
      cases BR.of_flat (hx.flat_inv trivial) (by simp) with
      | nils =>
        simp [rowV] at hcs; subst hcs
        simp [bytesV] at hbs; subst hbs
        refine Lands.same r (u := .string ⟨#[]⟩) ?_ (.closed rfl)
        rw [hcv]; rfl
      | @slice b off _ _ p hp hc =>
        simp only [rowV, Nat.mul_one] at hcs
        by_cases hn0 : len = 0
        · subst hn0
          rw [if_pos rfl] at hcs
          simp only [Option.some.injEq] at hcs
          subst hcs
          simp [bytesV] at hbs; subst hbs
          refine Lands.same r (u := .string ⟨#[]⟩) ?_ (.closed rfl)
          rw [hcv]
          simp [Conv.bytesToString, loadCells, loadCellsFrom]
          rfl
        rw [if_neg hn0] at hcs
        obtain ⟨us, g1, g2, g3⟩ := r.cells hcs hp
        obtain ⟨ns, rfl, rfl⟩ := bytesV_eq g1 hbs
        refine Lands.same r ?_ (.closed (v := .string ⟨(ns.map fun n => UInt8.ofNat n.toNat).toArray⟩) rfl)
        have hl : ns.length = len := by have := g1.length; simp at this; omega
        rw [hcv]
        have := run_bytesToString (P := P) w ⟨p.blk, p.base + off, none⟩ len (cap + p.slack) ns (by rw [← hl]; have := run_loadCells_list (P := P) w _ _ g3; simpa using this)
        rw [this, foldl_push]
        rfl
      | @slice0 b off a c p hp hc =>
        simp only [rowV, if_true, Option.some.injEq] at hcs
        subst hcs
        simp [bytesV] at hbs; subst hbs
        refine Lands.same r (u := .string ⟨#[]⟩) ?_ (.closed rfl)
        rw [hcv]
        simp [Conv.bytesToString, loadCells, loadCellsFrom]
        rfl
    · simp at hv
  · simp at hv

theorem copy_sound (r : Rel P B0 ι h w) {t t2 ty : TypeId} {d s ud us v : Value} {h' : Heap} (hd : VR ι d ud) (hs : VR ι s us) (hv : copyV P t d s h = some (v, h')) : Lands P B0 ι w (Builtin.copy_ #[t, t2] ty #[ud, us]) v h' := by
  unfold copyV at hv
  simp only [Option.bind_eq_some_iff] at hv
  obtain ⟨el, hel, k, hk, hv⟩ := hv
  have ht := tElem_some hel
  cases d with
  | slice A len cap =>
    simp only [Option.bind_eq_some_iff] at hv
    obtain ⟨n, hn, new, hnew, hv⟩ := hv
    obtain ⟨news, hl, hnl, hfc, hlo⟩ := r.row (size := k.size) hs hn (Nat.min_le_left n len) hnew
    have hrun : ∀ A' c', (Builtin.copy_ #[t, t2] ty #[.slice A' len c', us]).run P w = (match A' with | some a => (storeCells a news 0).run P w | none => .ok () w).andThen fun _ w' => .ok (.int .i64 (min n len : Nat)) w' := by
      intro A' c'
      have hmin : Nat.min n len = min n len := rfl
      cases A' <;> simp [Builtin.copy_, run_underlying ht, run_sizeOf hk, hlo, hmin, hfc w rfl, goInt]
    have hfs := BR.of_flat (hd.flat_inv trivial) (by simp)
    cases hfs with
    | nils =>
      simp only [] at hv
      split at hv
      · rename_i h0
        simp only [Option.some.injEq, Prod.mk.injEq] at hv
        obtain ⟨rfl, rfl⟩ := hv
        refine Lands.same r ?_ (.closed (v := .int .i64 0) rfl)
        rw [hrun]; simp
      · simp at hv
    | @slice b off _ _ p hp hc =>
      simp only [] at hv
      split at hv
      · rename_i h0
        simp only [Option.some.injEq, Prod.mk.injEq] at hv
        obtain ⟨rfl, rfl⟩ := hv
        refine Lands.same r ?_ (.closed (v := .int .i64 0) rfl)
        have : news = [] := by
          have := hl.length
          rw [hnl, h0] at this
          simpa using this.symm
        subst this
        rw [hrun, h0]; rfl
      · simp only [Option.map_eq_some_iff, Prod.mk.injEq] at hv
        obtain ⟨h1, hw, rfl, rfl⟩ := hv
        obtain ⟨w', hr, hR, hB⟩ := r.write hw hp hl
        refine ⟨_, w', ι, ?_, .closed (v := .int .i64 (min n len : Nat)) rfl, hR, List.prefix_rfl, hB⟩
        rw [hrun]; simp only []; rw [hr]; rfl
    | @slice0 b off a c p hp hc =>
      simp only [Nat.min_zero, if_true] at hv
      simp only [Option.some.injEq, Prod.mk.injEq] at hv
      obtain ⟨rfl, rfl⟩ := hv
      refine Lands.same r ?_ (.closed (v := .int .i64 0) rfl)
      have : news = [] := by
        have := hl.length
        rw [hnl] at this
        simpa using this.symm
      subst this
      rw [hrun]; simp [storeCells]
  | _ => simp at hv

end Go.V
end

section
/- The layer V, part 11: one operation, whatever it is. -/
namespace Go.V
open Go Go.RowKit
variable {P : Program} [Laid P] {B0 : Nat} {ι : List Place} {h : Heap} {w : World}

theorem wp_of_value {o : Oper} {a : Act} {next : Act → World → Prop} {Q : Go.Exit → Act → World → Prop} {u : Value} {w' : World} (hr : (execOp a.eval o).run P w = .ok (.value u) w') (hn : next (a.put o.dst u) w') : o.wp P a w next Q := by
  unfold Oper.wp; rw [hr]; exact hn
theorem wp_of_skip {o : Oper} {a : Act} {next : Act → World → Prop} {Q : Go.Exit → Act → World → Prop} {w' : World} (hr : (execOp a.eval o).run P w = .ok .skip w') (hn : next (a.put o.dst undef) w') : o.wp P a w next Q := by
  unfold Oper.wp; rw [hr]; exact hn

theorem run_val {s : Sem Value} {u : Value} {w' : World} (hs : s.run P w = .ok u w') : ((do pure (.value (← s)) : Sem Next)).run P w = .ok (.value u) w' := by
  simp [hs]

/-- max, min: whole numbers alone. -/
theorem fold_sound {f : Value → Value → Option Value} {g : Value → Value → Sem Value} (hf : ∀ x y v, f x y = some v → closed1 v = true ∧ closed1 x = true ∧ closed1 y = true ∧ ∀ w : World, (g x y).run P w = .ok v w) :
    ∀ (l us : List Value) (x v : Value), closed1 x = true → L2 (VR ι) l us → foldV f x l = some v → closed1 v = true ∧ ∀ w : World, (us.foldlM g x).run P w = .ok v w := by
  intro l
  induction l with
  | nil => intro us x v hx hl hv; cases hl; simp [foldV] at hv; subst hv; exact ⟨hx, fun w => rfl⟩
  | cons y l ih =>
    intro us x v hx hl hv
    cases hl with
    | @cons _ u _ m hr hrest =>
      simp only [foldV, Option.bind_eq_some_iff] at hv
      obtain ⟨z, hz, hv⟩ := hv
      obtain ⟨h1, h2, h3, h4⟩ := hf x y z hz
      have : u = y := VR.closed_eq (by cases y <;> simp_all [closedA, closed1]) hr
      subst this
      obtain ⟨h5, h6⟩ := ih m z v h1 hrest hv
      exact ⟨h5, fun w => by simp [List.foldlM_cons, h4, h6]⟩

theorem max_sound {l us : List Value} {v : Value} (hl : L2 (VR ι) l us) (hv : maxV l = some v) (ts : Array TypeId) (t : TypeId) : closed1 v = true ∧ ∀ w : World, (Builtin.max_ ts t us.toArray).run P w = .ok v w := by
  unfold maxV at hv
  split at hv
  · rename_i k x rest
    cases hl with
    | cons hr hrest =>
      have := hr.int_eq; subst this
      obtain ⟨h1, h2⟩ := fold_sound (P := P) (f := max2V) (g := Builtin.max2) (by
        intro x y v hv
        unfold max2V at hv
        split at hv
        · simp only [Option.some.injEq] at hv; subst hv
          exact ⟨rfl, rfl, rfl, fun w => by simp [Builtin.max2]⟩
        · simp at hv) rest _ _ v rfl hrest hv
      exact ⟨h1, fun w => by simpa [Builtin.max_] using h2 w⟩
  · simp at hv
theorem min_sound {l us : List Value} {v : Value} (hl : L2 (VR ι) l us) (hv : minV l = some v) (ts : Array TypeId) (t : TypeId) : closed1 v = true ∧ ∀ w : World, (Builtin.min_ ts t us.toArray).run P w = .ok v w := by
  unfold minV at hv
  split at hv
  · rename_i k x rest
    cases hl with
    | cons hr hrest =>
      have := hr.int_eq; subst this
      obtain ⟨h1, h2⟩ := fold_sound (P := P) (f := min2V) (g := Builtin.min2) (by
        intro x y v hv
        unfold min2V at hv
        split at hv
        · simp only [Option.some.injEq] at hv; subst hv
          exact ⟨rfl, rfl, rfl, fun w => by simp [Builtin.min2]⟩
        · simp at hv) rest _ _ v rfl hrest hv
      exact ⟨h1, fun w => by simpa [Builtin.min_] using h2 w⟩
  · simp at hv

theorem closed1_VR {v : Value} (hv : closed1 v = true) : VR ι v v := .one (.flat (.closed hv))

/-- The operands' values. -/
theorem eval_args {n : Nat} {e : Env} {a : Act} (hE : EnvR ι n e a) : ∀ (l : List Operand), (∀ x ∈ l, ∀ t, x = .tmp t → t < n) → L2 (VR ι) (l.map (evO e)) (l.map a.eval) := by
  intro l
  induction l with
  | nil => intro _; exact .nil
  | cons x l ih => intro hx; exact .cons (hE.eval (hx x (by simp))) (ih fun y hy => hx y (by simp [hy]))

theorem eval_parts {n : Nat} {e : Env} {a : Act} (hE : EnvR ι n e a) : ∀ (l : List (Nat × Operand)), (∀ x ∈ l, ∀ t, x.2 = .tmp t → t < n) →
    L2 (fun a b : Nat × Value => a.1 = b.1 ∧ VR ι a.2 b.2) (l.map fun (i, x) => (i, evO e x)) (l.map fun (i, x) => (i, a.eval x)) := by
  intro l
  induction l with
  | nil => intro _; exact .nil
  | cons x l ih => intro hx; exact .cons ⟨rfl, hE.eval (hx x (by simp))⟩ (ih fun y hy => hx y (by simp [hy]))

/-- What a call owes. -/
def CallLands (P : Program) [Laid P] (B0 : Nat) (ι : List Place) (w : World) (s : Sem Next) (K : Value → Heap → Prop) : Prop :=
  (∃ v u h' ι' w', s.run P w = .ok (.value u) w' ∧ K v h' ∧ VR ι' v u ∧ Rel P B0 ι' h' w' ∧ ι <+: ι' ∧ Below B0 w w') ∨
  (∃ f us, s.run P w = .ok (.enter f us) w ∧ Calls P f us w fun e w' => ∃ v u h' ι', e = .returned u ∧ K v h' ∧ VR ι' v u ∧ Rel P B0 ι' h' w' ∧ ι <+: ι' ∧ Below B0 w w')

theorem CallLands.wp {o : Oper} {a : Act} {K : Value → Heap → Prop} {next : Act → World → Prop} {Q : Go.Exit → Act → World → Prop} (hc : CallLands P B0 ι w (execOp a.eval o) K)
    (hn : ∀ v u h' ι' w', K v h' → VR ι' v u → Rel P B0 ι' h' w' → ι <+: ι' → Below B0 w w' → next (a.put o.dst u) w') : o.wp P a w next Q := by
  rcases hc with ⟨v, u, h', ι', w', hr, hk, hv, hR, hp, hB⟩ | ⟨f, us, hr, hcalls⟩
  · exact wp_of_value hr (hn v u h' ι' w' hk hv hR hp hB)
  · unfold Oper.wp
    rw [hr]
    refine Calls.mono hcalls ?_
    rintro e w' ⟨v, u, h', ι', rfl, hk, hv, hR, hp, hB⟩
    exact hn v u h' ι' w' hk hv hR hp hB

theorem closed_list_eq {l us : List Value} (hl : L2 (VR ι) l us) (hc : l.all closed1 = true) : us = l := by
  induction hl with
  | nil => rfl
  | cons hr _ ih =>
    simp at hc
    rw [VR.closed_eq ?_ hr, ih (by simpa using hc.2)]
    have := hc.1
    rename_i a b _ _ _
    cases a <;> simp_all [closedA, closed1]

theorem callFunc_body {f : FuncId} (hb : hasBody P f = true) (us : Array Value) (w : World) : (callFunc f us).run P w = .ok (.enter f us) w := by
  unfold hasBody at hb
  split at hb
  · rename_i fn hfn
    simp only [Bool.and_eq_true, bne_iff_ne, ne_eq] at hb
    obtain ⟨h1, h2⟩ := hb
    simp [callFunc, hfn, h2]
    intro h3
    simp [h3] at h1
  · simp at hb

theorem call_sound (r : Rel P B0 ι h w) {f : FuncId} {args us : List Value} {K : Value → Heap → Prop} (ha : L2 (VR ι) args us) (hc : CallV P f args h K) : CallLands P B0 ι w (callFunc f us.toArray) K := by
  rcases hc with ⟨hb, hc⟩ | ⟨v, ⟨h1, h2, h3⟩, hk⟩
  · exact .inr ⟨f, us.toArray, callFunc_body hb _ _, hc B0 ι w us r ha⟩
  · rw [closed_list_eq ha h1]
    refine .inl ⟨v, v, h, ι, w, h3 w, hk, ?_, r, List.prefix_rfl, Below.refl _ _⟩
    split at h2
    · rename_i vs
      have : VR ι (.tuple vs.toList.toArray) (.tuple vs.toList.toArray) := .tup (L2.refl fun a ha => .flat (.closed (List.all_eq_true.1 h2 a ha)))
      simpa using this
    · exact closed1_VR h2

theorem dyn_sound (r : Rel P B0 ι h w) {g ug : Value} {args us : List Value} {K : Value → Heap → Prop} (hg : VR ι g ug) (ha : L2 (VR ι) args us) (hc : callDyn P g args h K) :
    CallLands P B0 ι w (do let d ← Deferred.ofValue ug us.toArray; invoke d.target d.args) K := by
  unfold callDyn at hc
  split at hc
  · rename_i f first captured
    have hf := hg.flat_inv trivial
    generalize hx : Value.func (.func f) first captured = x at hf
    cases hf with
    | base hb => subst hx; cases hb
    | @func fn a b c d h1 h2 =>
      simp only [Value.func.injEq] at hx
      obtain ⟨rfl, rfl, rfl⟩ := hx
      have hall : L2 (VR ι) (a ++ args ++ c) (b ++ us ++ d) := ((h1.imp fun _ _ x => VR.one (.flat (.base x))).append ha).append (h2.imp fun _ _ x => VR.one (.flat (.base x)))
      have hcall := call_sound r hall (by simpa using hc)
      have e : (do let d' ← Deferred.ofValue (.func (.func f) b.toArray d.toArray) us.toArray; invoke d'.target d'.args : Sem Next) = callFunc f (b ++ us ++ d).toArray := by
        simp [Deferred.ofValue, invoke]
      rw [e]; exact hcall
  · exact hc.elim


theorem capOk_BR {v u : Value} (r : VR ι v u) (h : capOk v = true) : BR ι v u := by
  cases r with
  | one r =>
    cases r with
    | junk => simp [capOk] at h
    | skip => simp [capOk] at h
    | flat r =>
      refine BR.of_flat r ?_
      rintro fn a b rfl
      simp [capOk] at h
    | agg => simp [capOk] at h
  | tup => simp [capOk] at h

/-- The operands of an operation are slots that there are. -/
def opsIn (n : Nat) (o : Oper) : Prop := (∀ x ∈ o.op.operands.toList, ∀ t, x = .tmp t → t < n) ∧ ∀ t, o.dst = some t → t < n
theorem opsIn_of {n : Nat} {o : Oper} (h : opOk n o = true) : opsIn n o := by
  unfold opOk at h
  simp only [Bool.and_eq_true] at h
  obtain ⟨⟨h1, h2⟩, _⟩ := h
  refine ⟨fun x hx t ht => ?_, fun t ht => ?_⟩
  · have := List.all_eq_true.1 h2 x hx
    subst ht
    simpa using this
  · rw [ht] at h1; simpa using h1

theorem Lands.wp {o : Oper} {a : Act} {s : Sem Value} {v : Value} {h' : Heap} {K : Value → Heap → Prop} {next : Act → World → Prop} {Q : Go.Exit → Act → World → Prop} (he : execOp a.eval o = (do pure (.value (← s)) : Sem Next)) (hl : Lands P B0 ι w s v h') (hk : K v h')
    (hn : ∀ v u h' ι' w', K v h' → VR ι' v u → Rel P B0 ι' h' w' → ι <+: ι' → Below B0 w w' → next (a.put o.dst u) w') : o.wp P a w next Q := by
  obtain ⟨u, w', ι', hr, hv, hR, hp, hB⟩ := hl
  exact wp_of_value (u := u) (w' := w') (by rw [he]; exact run_val hr) (hn v u h' ι' w' hk hv hR hp hB)

theorem optK_some {o : Option Value} {h : Heap} {K : Value → Heap → Prop} (hk : optK o h K) : ∃ v, o = some v ∧ K v h := by
  cases o with
  | none => exact hk.elim
  | some v => exact ⟨v, rfl, hk⟩
theorem optH_some {o : Option (Value × Heap)} {K : Value → Heap → Prop} (hk : optH o K) : ∃ v h, o = some (v, h) ∧ K v h := by
  cases o with
  | none => exact hk.elim
  | some v => exact ⟨v.1, v.2, rfl, hk⟩

theorem builtin_sound (r : Rel P B0 ι h w) {b : Builtin} {ts : Array TypeId} {ty : TypeId} {cs : Array Bool} {args us : List Value} {K : Value → Heap → Prop} (ha : L2 (VR ι) args us) (hc : builtinV P b ts args h K) :
    ∃ s v h', builtin b ts ty cs us.toArray = (do pure (.value (← s)) : Sem Next) ∧ Lands P B0 ι w s v h' ∧ K v h' := by
  unfold builtinV at hc
  split at hc
  · -- len of a slice
    rename_i t A n c hts
    cases ha with
    | @cons _ u _ m hr hrest =>
      cases hrest
      obtain ⟨he, hk⟩ := hc
      obtain ⟨el, hel⟩ := Option.isSome_iff_exists.1 he
      have ht := tElem_some hel
      have hts' : ts = #[t] := by apply Array.ext'; simpa using hts
      refine ⟨_, .int .i64 n, h, rfl, Lands.same r (u := .int .i64 n) ?_ (.closed rfl), hk⟩
      cases BR.of_flat (hr.flat_inv trivial) (by simp) <;> simp [Builtin.len_, hts', run_underlying ht, goInt]
  · rename_i t s hts
    cases ha with
    | @cons _ u _ m hr hrest =>
      cases hrest
      obtain ⟨he, hk⟩ := hc
      have ht := kind_str he
      have hts' : ts = #[t] := by apply Array.ext'; simpa using hts
      have := hr.string_eq; subst this
      refine ⟨_, .int .i64 s.size, h, rfl, Lands.same r (u := .int .i64 s.size) ?_ (.closed rfl), hk⟩
      simp [Builtin.len_, hts', run_underlying ht, goInt]
  · rename_i t t2 s x hts
    cases ha with
    | @cons _ u _ m hr hrest =>
      cases hrest with
      | @cons _ u2 _ m2 hr2 hrest2 =>
        cases hrest2
        obtain ⟨he, hc⟩ := hc
        split at hc
        · rename_i v h' happ
          have hts' : ts = #[t, t2] := by apply Array.ext'; simpa using hts
          subst hts'
          exact ⟨_, v, h', rfl, append_sound r hr hr2 happ he, hc⟩
        · exact hc.elim
  · rename_i t t2 d s hts
    cases ha with
    | @cons _ u _ m hr hrest =>
      cases hrest with
      | @cons _ u2 _ m2 hr2 hrest2 =>
        cases hrest2
        split at hc
        · rename_i v h' happ
          have hts' : ts = #[t, t2] := by apply Array.ext'; simpa using hts
          subst hts'
          exact ⟨_, v, h', rfl, copy_sound r hr hr2 happ, hc⟩
        · exact hc.elim
  · split at hc
    · rename_i v hv
      obtain ⟨h1, h2⟩ := max_sound (P := P) ha hv ts ty
      exact ⟨_, v, h, rfl, Lands.same r (h2 w) (closed1_VR h1), hc⟩
    · exact hc.elim
  · split at hc
    · rename_i v hv
      obtain ⟨h1, h2⟩ := min_sound (P := P) ha hv ts ty
      exact ⟨_, v, h, rfl, Lands.same r (h2 w) (closed1_VR h1), hc⟩
    · exact hc.elim
  · exact hc.elim

set_option maxHeartbeats 1000000 in
theorem op_sound (r : Rel P B0 ι h w) {n : Nat} {e : Env} {a : Act} {o : Oper} (hE : EnvR ι n e a) (hok : opsIn n o) {K : Value → Heap → Prop} (hv : opV P o.op e h K) {next : Act → World → Prop} {Q : Go.Exit → Act → World → Prop}
    (hn : ∀ v u h' ι' w', K v h' → VR ι' v u → Rel P B0 ι' h' w' → ι <+: ι' → Below B0 w w' → next (a.put o.dst u) w') : o.wp P a w next Q := by
  obtain ⟨dst, op, ty, pos, after, guard⟩ := o
  have hx := hok.1
  simp only [] at hv hx
  cases op <;> simp only [opV] at hv <;> try exact hv.elim
  case move x =>
    exact wp_of_value (u := a.eval x) rfl (hn _ _ _ _ _ hv (hE.eval (hx x (by simp [Op.operands]))) r List.prefix_rfl (Below.refl _ _))
  case assign x =>
    exact wp_of_value (u := a.eval x) rfl (hn _ _ _ _ _ hv (hE.eval (hx x (by simp [Op.operands]))) r List.prefix_rfl (Below.refl _ _))
  case pick c x y =>
    have hc := hE.eval (hx c (by simp [Op.operands]))
    split at hv
    · rename_i he
      rw [he] at hc
      have := hc.bool_eq
      exact wp_of_value (u := a.eval x) (by show ((do pure (.value (if ← asBool (a.eval c) then a.eval x else a.eval y)) : Sem Next)).run P w = _; rw [this]; rfl) (hn _ _ _ _ _ hv (hE.eval (hx x (by simp [Op.operands]))) r List.prefix_rfl (Below.refl _ _))
    · rename_i he
      rw [he] at hc
      have := hc.bool_eq
      exact wp_of_value (u := a.eval y) (by show ((do pure (.value (if ← asBool (a.eval c) then a.eval x else a.eval y)) : Sem Next)).run P w = _; rw [this]; rfl) (hn _ _ _ _ _ hv (hE.eval (hx y (by simp [Op.operands]))) r List.prefix_rfl (Below.refl _ _))
    · exact hv.elim
  case alloc t =>
    split at hv
    · rename_i k hk
      exact Lands.wp rfl (alloc_sound r hk) hv hn
    · exact hv.elim
  case box t x =>
    split at hv
    · rename_i k cs hk hcs
      exact Lands.wp rfl (box_sound r hk (hE.eval (hx x (by simp [Op.operands]))) hcs) hv.2 hn
    · exact hv.elim
  case build t ps =>
    obtain ⟨v, hv, hk⟩ := optK_some hv
    obtain ⟨u, hu, hr⟩ := build_sound (eval_parts hE ps.toList (fun x hxm t ht => hx x.2 (by simp [Op.operands]; exact ⟨x.1, by simpa using hxm⟩) t ht)) hv
    refine Lands.wp (s := Instr.build t (ps.map fun (i, x) => (i, a.eval x))) rfl (Lands.same r (u := u) ?_ hr) hk hn
    have := hu w
    rw [← this]; congr 2; apply Array.ext'; simp
  case buildSlice t m ps =>
    obtain ⟨v, h', hv, hk⟩ := optH_some hv
    have := buildSlice_sound r (eval_parts hE ps.toList (fun x hxm t ht => hx x.2 (by simp [Op.operands]; exact ⟨x.1, by simpa using hxm⟩) t ht)) hv
    refine Lands.wp (s := Instr.buildSlice t m (ps.map fun (i, x) => (i, a.eval x))) rfl ?_ hk hn
    have e : (ps.map fun (i, x) => (i, a.eval x)) = (ps.toList.map fun (i, x) => (i, a.eval x)).toArray := by apply Array.ext'; simp
    rw [e]; exact this
  case load t x =>
    obtain ⟨v, hv, hk⟩ := optK_some hv
    obtain ⟨u, hu, hr⟩ := load_sound r (hE.eval (hx x (by simp [Op.operands]))) hv
    exact Lands.wp rfl (Lands.same r hu hr) hk hn
  case store t x y =>
    split at hv
    · rename_i h' hst
      obtain ⟨w', hr, hR, hB⟩ := store_sound r (hE.eval (hx x (by simp [Op.operands]))) (hE.eval (hx y (by simp [Op.operands]))) hst
      exact wp_of_skip (by show ((do Instr.storeAt t (a.eval x) (a.eval y); pure .skip : Sem Next)).run P w = _; rw [Sem.run_bind, hr]; rfl) (hn _ _ _ _ _ hv (.one (.junk _)) hR List.prefix_rfl hB)
    · exact hv.elim
  case nilCheck x =>
    obtain ⟨v, hv, hk⟩ := optK_some hv
    have hxx := hE.eval (hx x (by simp [Op.operands]))
    obtain ⟨h1, h2⟩ := nilCheck_sound hxx hv
    rw [h1] at hxx
    refine wp_of_value (u := a.eval x) ?_ (hn _ _ _ _ _ hk hxx r List.prefix_rfl (Below.refl _ _))
    rcases h2 with ⟨_, h2⟩ | ⟨_, _, _, h2⟩ <;> (simp only [execOp, h2]; rfl)
  case binOp op t x y t2 =>
    have h1 := hE.eval (hx x (by simp [Op.operands]))
    have h2 := hE.eval (hx y (by simp [Op.operands]))
    split at hv
    · rename_i v hb
      obtain ⟨hc, hr⟩ := bin_sound (P := P) (xo := x) (yo := y) h1 h2 hb
      exact Lands.wp rfl (Lands.same r (hr w) (closed1_VR hc)) hv hn
    · obtain ⟨c1, c2, v, c3, hr, hk⟩ := hv
      have e1 := h1.closed_eq c1
      have e2 := h2.closed_eq c2
      refine Lands.wp rfl (Lands.same r (u := v) ?_ (.closed c3)) hk hn
      rw [e1, e2]; exact hr w
  case unOp op t x =>
    obtain ⟨v, hv, hk⟩ := optK_some hv
    obtain ⟨hc, hr⟩ := un_sound (P := P) (hE.eval (hx x (by simp [Op.operands]))) hv
    exact Lands.wp rfl (Lands.same r (hr w) (closed1_VR hc)) hk hn
  case convert s t x =>
    obtain ⟨v, h', hv, hk⟩ := optH_some hv
    exact Lands.wp rfl (conv_sound r (hE.eval (hx x (by simp [Op.operands]))) hv) hk hn
  case makeFunc fn first captured =>
    obtain ⟨hc, hk⟩ := hv
    simp only [Bool.and_eq_true] at hc
    have key : ∀ l : List Operand, (∀ x ∈ l, ∀ t, x = .tmp t → t < n) → l.all (fun x => capOk (evO e x)) = true → L2 (BR ι) (l.map (evO e)) (l.map a.eval) := by
      intro l
      induction l with
      | nil => intro _ _; exact .nil
      | cons x l ih =>
        intro h1 h2
        simp only [List.all_cons, Bool.and_eq_true] at h2
        refine .cons ?_ (ih (fun y hy => h1 y (by simp [hy])) h2.2)
        have hv := hE.eval (h1 x (by simp))
        exact capOk_BR hv h2.1
    have hv2 := FR.func fn (key first.toList (fun x hxm t ht => hx x (by simp [Op.operands]; exact .inl (by simpa using hxm)) t ht) hc.1) (key captured.toList (fun x hxm t ht => hx x (by simp [Op.operands]; exact .inr (by simpa using hxm)) t ht) hc.2)
    refine Lands.wp (s := Instr.makeFunc fn (first.map a.eval) (captured.map a.eval)) rfl (Lands.same r (u := .func fn (first.toList.map a.eval).toArray (captured.toList.map a.eval).toArray) ?_ (.one (.flat hv2))) hk hn
    have e1 : first.map a.eval = (first.toList.map a.eval).toArray := by apply Array.ext'; simp
    have e2 : captured.map a.eval = (captured.toList.map a.eval).toArray := by apply Array.ext'; simp
    rw [e1, e2]; rfl
  case makeSlice t l c =>
    obtain ⟨v, h', hv, hk⟩ := optH_some hv
    exact Lands.wp rfl (makeSlice_sound r (hE.eval (hx l (by simp [Op.operands]))) (hE.eval (hx c (by simp [Op.operands]))) hv) hk hn
  case slice t x lo hi mx =>
    cases mx with
    | some _ => exact hv.elim
    | none =>
      obtain ⟨v, hv, hk⟩ := optK_some hv
      obtain ⟨u, hu, hr⟩ := slice_sound (P := P) (e := e) (ρ := a.eval) (hE.eval (hx x (by simp [Op.operands]))) (by
        intro y hy
        refine hE.eval (hx y ?_)
        rcases hy with rfl | rfl <;> simp [Op.operands]) hv
      exact Lands.wp rfl (Lands.same r (hu w) hr) hk hn
  case fieldAddr t x f =>
    obtain ⟨v, hv, hk⟩ := optK_some hv
    obtain ⟨u, hu, hr⟩ := fieldAddr_sound (P := P) (hE.eval (hx x (by simp [Op.operands]))) hv
    exact Lands.wp rfl (Lands.same r (hu w) hr) hk hn
  case field t x f =>
    obtain ⟨v, hv, hk⟩ := optK_some hv
    obtain ⟨u, hu, hr⟩ := field_sound (P := P) (hE.eval (hx x (by simp [Op.operands]))) hv
    exact Lands.wp rfl (Lands.same r (hu w) hr) hk hn
  case indexAddr t x i =>
    obtain ⟨v, hv, hk⟩ := optK_some hv
    obtain ⟨u, hu, hr⟩ := indexAddr_sound (P := P) (hE.eval (hx x (by simp [Op.operands]))) (hE.eval (hx i (by simp [Op.operands]))) hv
    exact Lands.wp rfl (Lands.same r (hu w) hr) hk hn
  case index t x i =>
    obtain ⟨v, hv, hk⟩ := optK_some hv
    obtain ⟨u, hu, hr⟩ := index_sound (P := P) (hE.eval (hx x (by simp [Op.operands]))) (hE.eval (hx i (by simp [Op.operands]))) hv
    exact Lands.wp rfl (Lands.same r (hu w) hr) hk hn
  case extract x i =>
    obtain ⟨v, hv, hk⟩ := optK_some hv
    obtain ⟨u, hu, hr⟩ := extract_sound (P := P) (hE.eval (hx x (by simp [Op.operands]))) hv
    exact Lands.wp rfl (Lands.same r (hu w) hr) hk hn
  case call c =>
    obtain ⟨callee, args, ats⟩ := c
    simp only [] at hv
    cases callee with
    | builtin b =>
      simp only [] at hv
      have hargs := eval_args hE args.toList (fun x hxm t ht => hx x (by simp [Op.operands, Call.operands]; simpa using hxm) t ht)
      obtain ⟨s, v, h', he, hl, hk⟩ := builtin_sound r (ty := ty) (cs := args.map fun | .const _ => true | _ => false) hargs hv
      refine Lands.wp (s := s) ?_ hl hk hn
      rw [← he]
      simp only [execOp, resolve]
      simp [invoke]
      congr 1
      apply Array.ext'
      simp
    | value f =>
      simp only [] at hv
      have hargs := eval_args hE args.toList (fun x hxm t ht => hx x (by simp [Op.operands, Call.operands]; right; simpa using hxm) t ht)
      have hf := hE.eval (hx f (by simp [Op.operands, Call.operands]))
      have hd := dyn_sound r hf hargs hv
      refine CallLands.wp ?_ hn
      have e : execOp a.eval { dst := dst, op := .call { callee := .value f, args := args, argTypes := ats }, type := ty, pos := pos, after := after, guard := guard } = (do let d ← Deferred.ofValue (a.eval f) (args.toList.map a.eval).toArray; invoke d.target d.args : Sem Next) := by
        simp only [execOp, resolve]
        congr 2
        apply Array.ext'
        simp
      rw [e]; exact hd
    | invoke x m => exact hv.elim

end Go.V
end

section
/- The layer V, part 12: regions in the text's order, code, functions. -/
namespace Go.V
open Go Go.RowKit
variable {P : Program} [Laid P] {B0 : Nat} {ι : List Place} {h : Heap} {w : World}

theorem VR.float_eq {k : FloatKind} {n : Nat} {u : Value} (r : VR ι (.float k n) u) : u = undef := by
  cases r with
  | one r =>
    cases r with
    | skip => rfl
    | flat r => cases r with | base r => cases r

theorem guard_sound {n : Nat} {e : Env} {a : Act} {all : Array Oper} {o : Oper} {b : Bool} (hE : EnvR ι n e a) (hall : ∀ o ∈ all.toList, opsIn n o) (hg : guardV all o e = some b) : Region.wanted o (yielded all a.tmps) = b := by
  unfold guardV at hg
  unfold Region.wanted
  split at hg
  · rename_i hgd
    simp only [Option.some.injEq] at hg
    subst hg; rw [hgd]
  · rename_i j want hgd
    rw [hgd]
    simp only []
    split at hg
    · rename_i t ht
      have htn : t < n := by
        simp only [Option.bind_eq_some_iff] at ht
        obtain ⟨oj, hoj, hd⟩ := ht
        exact (hall oj (by simpa using Array.mem_of_getElem? hoj)).2 t hd
      have hv := hE.at_ t htn
      have hsome : a.tmps[t]? = some (a.tmps.getD t undef) := by
        have : t < a.tmps.size := by rw [hE.size]; exact htn
        simp [this]
      unfold yielded
      rw [ht]
      simp only [Option.bind_some]
      rw [hsome]
      split at hg
      · rename_i b' hb
        rw [hb] at hv
        rw [hv.bool_eq]
        simp only [Option.some.injEq] at hg
        subst hg
        cases b' <;> cases want <;> rfl
      · rename_i k m hb
        rw [hb] at hv
        rw [hv.float_eq]
        simp only [Option.some.injEq] at hg
        subst hg
        rfl
      · simp at hg
    · simp at hg

theorem ops_sound {n : Nat} {all : Array Oper} (hall : ∀ o ∈ all.toList, opsIn n o) {K : Env → Heap → Prop} {Q : Go.Exit → Act → World → Prop} : ∀ (os : List Oper) (e : Env) (h : Heap) (ι : List Place) (a : Act) (w : World), (∀ o ∈ os, opsIn n o) → opsV P all os e h K → EnvR ι n e a → Rel P B0 ι h w →
    (∀ e' h' ι' a' w', K e' h' → EnvR ι' n e' a' → Rel P B0 ι' h' w' → ι <+: ι' → Below B0 w w' → Q .normal a' w') → wpList P all Q os a w := by
  intro os
  induction os with
  | nil => intro e h ι a w _ hv hE r hn; exact hn e h ι a w hv hE r List.prefix_rfl (Below.refl _ _)
  | cons o os ih =>
    intro e h ι a w hos hv hE r hn
    unfold opsV at hv
    unfold wpList
    split at hv
    · rename_i hg
      rw [if_pos (guard_sound hE hall hg)]
      refine .inl (op_sound r hE (hos o (by simp)) hv ?_)
      intro v u h' ι' w' hk hvr hR hp hB
      refine ih _ h' ι' _ w' (fun o' ho' => hos o' (by simp [ho'])) hk ((hE.pre hp).put (hos o (by simp)).2 hvr) hR ?_
      intro e2 h2 ι2 a2 w2 hk2 hE2 hR2 hp2 hB2
      exact hn e2 h2 ι2 a2 w2 hk2 hE2 hR2 (hp.trans hp2) (hB.trans hB2)
    · rename_i hg
      rw [if_neg (by rw [guard_sound hE hall hg]; simp)]
      exact ih _ h ι _ w (fun o' ho' => hos o' (by simp [ho'])) hv (hE.put (hos o (by simp)).2 (.one .skip)) r hn
    · exact hv.elim

theorem wp_loop_n {c : Code} {Q : Go.Exit → Act → World → Prop} (I : Nat → Act → World → Prop) (round : ∀ m a w, I m a w → c.wp P (Exit.then (fun a' w' => ∃ m', m' < m ∧ I m' a' w') Q) a w) (m : Nat) (a : Act) (w : World) (h0 : I m a w) : (Code.loop c).wp P Q a w := by
  intro b k cs
  have key : ∀ n a w, I n a w → ∃ e a' w', Q e a' w' ∧ Arrives P (lone (b.at a (.code c :: .inLoop c :: k)) cs w) b k cs e a' w' := by
    intro n
    induction n using Nat.strongRecOn with
    | _ n ih =>
      intro a w hI
      obtain ⟨e, a₁, w₁, hq, harr⟩ := round n a w hI b (.inLoop c :: k) cs
      cases e with
      | normal =>
        obtain ⟨m', hlt, hI₁⟩ := hq
        obtain ⟨e₂, a₂, w₂, hq₂, harr₂⟩ := ih m' hlt a₁ w₁ hI₁
        exact ⟨e₂, a₂, w₂, hq₂, .of_steps (Steps.trans harr (.one step_inLoop)) harr₂⟩
      | exit id => exact ⟨_, a₁, w₁, hq, .pass (x := .inLoop c) rfl (fun _ _ => .inl (by simp)) harr⟩
      | goto l => exact ⟨_, a₁, w₁, hq, .pass (x := .inLoop c) rfl (fun _ _ => .inl (by simp)) harr⟩
      | ret => exact ⟨_, a₁, w₁, hq, .pass (x := .inLoop c) rfl (fun _ _ => .inl (by simp)) harr⟩
      | panic ch => exact ⟨_, a₁, w₁, hq, .pass (x := .inLoop c) rfl (fun _ _ => .inl (by simp)) harr⟩
      | outgrown => exact ⟨_, a₁, w₁, hq, .pass (x := .inLoop c) rfl (fun _ _ => .inl (by simp)) harr⟩
  obtain ⟨e, a', w', hq, harr⟩ := key _ a w h0
  exact ⟨e, a', w', hq, .of_steps (.one step_loop) harr⟩

def toExit : VX → Go.Exit
  | .norm => .normal
  | .exit id => .exit id
  | .ret => .ret

/-- What a region that draws owes (proved in the next part). -/
def DrawSound (P : Program) [Laid P] : Prop := ∀ (B0 n id : Nat) (ops : Array Oper) (e : Env) (h : Heap) (ι : List Place) (a : Act) (w : World) (K : Env → Heap → Prop) (Q : Go.Exit → Act → World → Prop),
  (∀ o ∈ ops.toList, opsIn n o) → drawV P ops e h K → EnvR ι n e a → Rel P B0 ι h w →
  (∀ e' h' ι' a' w', K e' h' → EnvR ι' n e' a' → Rel P B0 ι' h' w' → ι <+: ι' → Below B0 w w' → Q .normal a' w') → (Code.region id ops true).wp P Q a w

theorem code_sound (hD : DrawSound P) {n : Nat} : ∀ (c : Code) (e : Env) (h : Heap) (ι : List Place) (a : Act) (w : World) (Q : VX → Env → Heap → Prop) (QC : Go.Exit → Act → World → Prop), codeOk n c = true → wpV P c e h Q → EnvR ι n e a → Rel P B0 ι h w →
    (∀ x e' h' ι' a' w', Q x e' h' → EnvR ι' n e' a' → Rel P B0 ι' h' w' → ι <+: ι' → Below B0 w w' → QC (toExit x) a' w') → c.wp P QC a w := by
  intro c
  induction c with
  | skip => intro e h ι a w Q QC _ hv hE r hn; exact wp_skip (hn .norm e h ι a w hv hE r List.prefix_rfl (Below.refl _ _))
  | region id ops draw =>
    intro e h ι a w Q QC hok hv hE r hn
    have hall : ∀ o ∈ ops.toList, opsIn n o := fun o ho => opsIn_of (List.all_eq_true.1 hok o ho)
    cases draw with
    | false =>
      refine wp_region_list ?_
      exact ops_sound hall ops.toList e h ι a w hall hv hE r (fun e' h' ι' a' w' hk => hn .norm e' h' ι' a' w' hk)
    | true => exact hD B0 n id ops e h ι a w _ QC hall hv hE r (fun e' h' ι' a' w' hk => hn .norm e' h' ι' a' w' hk)
  | seq x y ihx ihy =>
    intro e h ι a w Q QC hok hv hE r hn
    simp only [codeOk, Bool.and_eq_true] at hok
    refine wp_seq (ihx e h ι a w _ _ hok.1 hv hE r ?_)
    intro x1 e' h' ι' a' w' hq hE' hR' hp hB
    cases x1 with
    | norm => exact ihy e' h' ι' a' w' Q QC hok.2 hq hE' hR' (fun x2 e2 h2 ι2 a2 w2 hq2 hE2 hR2 hp2 hB2 => hn x2 e2 h2 ι2 a2 w2 hq2 hE2 hR2 (hp.trans hp2) (hB.trans hB2))
    | exit id => exact hn (.exit id) e' h' ι' a' w' hq hE' hR' hp hB
    | ret => exact hn .ret e' h' ι' a' w' hq hE' hR' hp hB
  | cond c x y ihx ihy =>
    intro e h ι a w Q QC hok hv hE r hn
    simp only [codeOk, Bool.and_eq_true] at hok
    have hc := hE.eval (x := c) (by
      rintro t rfl
      simpa using hok.1.1)
    simp only [wpV] at hv
    split at hv
    · rename_i he
      rw [he] at hc
      exact wp_cond_true hc.bool_eq (ihx e h ι a w Q QC hok.1.2 hv hE r hn)
    · rename_i he
      rw [he] at hc
      exact wp_cond_false hc.bool_eq (ihy e h ι a w Q QC hok.2 hv hE r hn)
    · exact hv.elim
  | block id b ih =>
    intro e h ι a w Q QC hok hv hE r hn
    refine wp_block (ih e h ι a w _ _ hok hv hE r ?_)
    intro x1 e' h' ι' a' w' hq hE' hR' hp hB
    cases x1 with
    | norm => exact hn .norm e' h' ι' a' w' hq hE' hR' hp hB
    | exit i =>
      simp only [exitV] at hq
      simp only [toExit, Exit.inBlock]
      split at hq
      · rename_i hi; rw [if_pos hi]; exact hn .norm e' h' ι' a' w' hq hE' hR' hp hB
      · rename_i hi; rw [if_neg hi]; exact hn (.exit i) e' h' ι' a' w' hq hE' hR' hp hB
    | ret => exact hn .ret e' h' ι' a' w' hq hE' hR' hp hB
  | loop b ih =>
    intro e h ι a w Q QC hok hv hE r hn
    obtain ⟨m, hm⟩ := hv
    refine wp_loop_n (fun m a' w' => ∃ e' h' ι', iterV (wpV P b) Q m e' h' ∧ EnvR ι' n e' a' ∧ Rel P B0 ι' h' w' ∧ ι <+: ι' ∧ Below B0 w w') ?_ m a w ⟨e, h, ι, hm, hE, r, List.prefix_rfl, Below.refl _ _⟩
    rintro m a1 w1 ⟨e1, h1, ι1, hi, hE1, hR1, hp1, hB1⟩
    cases m with
    | zero => exact hi.elim
    | succ m =>
      refine ih e1 h1 ι1 a1 w1 _ _ hok hi hE1 hR1 ?_
      intro x1 e' h' ι' a' w' hq hE' hR' hp hB
      cases x1 with
      | norm => exact ⟨m, Nat.lt_succ_self m, e', h', ι', hq, hE', hR', hp1.trans hp, hB1.trans hB⟩
      | exit i => exact hn (.exit i) e' h' ι' a' w' hq hE' hR' (hp1.trans hp) (hB1.trans hB)
      | ret => exact hn .ret e' h' ι' a' w' hq hE' hR' (hp1.trans hp) (hB1.trans hB)
  | exit id => intro e h ι a w Q QC _ hv hE r hn; exact wp_exit (hn (.exit id) e h ι a w hv hE r List.prefix_rfl (Below.refl _ _))
  | ret => intro e h ι a w Q QC _ hv hE r hn; exact wp_ret (hn .ret e h ι a w hv hE r List.prefix_rfl (Below.refl _ _))
  | _ => intro e h ι a w Q QC _ hv; exact hv.elim

/-! ### functions -/
def resIn (n : Nat) : ResultVar → Bool
  | .tmp t => decide (t < n)
  | .cell a _ => decide (a < n)

/-- The facts on a function that a contract rests on, told in one Bool. -/
def fnOk (fn : Func) (c : Code) : Bool := codeOk fn.ntmps c && fn.results.toList.all (resIn fn.ntmps) && decide (fn.params.size + fn.nfree ≤ fn.ntmps)

theorem loadV_ptr {t : TypeId} {x u v : Value} (hx : VR ι x u) (hv : loadV P t x h = some v) : ∃ ad, u = .pointer (some ad) := by
  unfold loadV at hv
  split at hv
  · cases BR.of_flat (hx.flat_inv trivial) (by simp) with
    | ptr hp => exact ⟨_, rfl⟩
  · simp at hv

theorem results_list {n : Nat} {e : Env} {a : Act} (hE : EnvR ι n e a) (r : Rel P B0 ι h w) : ∀ (rs : List ResultVar) (vs : List Value), rs.all (resIn n) = true → rs.mapM (resultV P e h) = some vs →
    ∃ us, L2 (VR ι) vs us ∧ ((rs.mapM fun | .tmp t => pure (a.tmps.getD t undef) | .cell x t => do loadVar t (← asAddr (a.tmps.getD x undef)) : Sem (List Value))).run P w = .ok us w := by
  intro rs
  induction rs with
  | nil => intro vs _ hv; simp at hv; subst hv; exact ⟨[], .nil, rfl⟩
  | cons x rs ih =>
    intro vs hin hv
    simp only [List.all_cons, Bool.and_eq_true] at hin
    simp only [List.mapM_cons, Option.pure_def, Option.bind_eq_bind, Option.bind_eq_some_iff, Option.some.injEq] at hv
    obtain ⟨v, hv1, vs', hv2, rfl⟩ := hv
    obtain ⟨us, hl, hr⟩ := ih vs' hin.2 hv2
    cases x with
    | tmp t =>
      simp only [resultV, Option.some.injEq] at hv1
      subst hv1
      exact ⟨_ :: us, .cons (hE.at_ t (by simpa [resIn] using hin.1)) hl, by simp only [List.mapM_cons, Sem.run_bind, Sem.run_pure, Result.andThen_ok, hr]⟩
    | cell x t =>
      simp only [resultV] at hv1
      have hx := hE.at_ x (by simpa [resIn] using hin.1)
      obtain ⟨u, hu, hur⟩ := load_sound r hx hv1
      refine ⟨u :: us, .cons hur hl, ?_⟩
      obtain ⟨ad, had⟩ := loadV_ptr hx hv1
      have hu' : (loadVar t ad).run P w = .ok u w := by
        rw [had] at hu
        exact hu
      have h1 : (asAddr (a.tmps.getD x undef)).run P w = .ok ad w := by rw [had]; rfl
      simp only [List.mapM_cons, Sem.run_bind, Sem.run_pure, h1, Result.andThen_ok, hu', hr]

theorem results_sound {n : Nat} {e : Env} {a : Act} {fn : Func} {v : Value} (hE : EnvR ι n e a) (r : Rel P B0 ι h w) (hin : fn.results.toList.all (resIn n) = true) (hv : resultsV P fn e h = some v) :
    ∃ u, VR ι v u ∧ (results fn a.tmps).run P w = .ok u w := by
  unfold resultsV at hv
  simp only [Option.bind_eq_some_iff] at hv
  obtain ⟨vs, hvs, hv⟩ := hv
  obtain ⟨us, hl, hr⟩ := results_list hE r fn.results.toList vs hin hvs
  have hrun : (results fn a.tmps).run P w = .ok (if h : us.toArray.size = 1 then us.toArray[0] else .tuple us.toArray) w := by
    unfold results
    rw [Array.mapM_eq_mapM_toList]
    rw [Sem.run_bind, Sem.run_map]
    exact congrArg (fun X : Result (List Value) => (X.andThen fun a w' => Result.ok a.toArray w').andThen fun a w' => Sem.run P (pure (if h : a.size = 1 then a[0] else Value.tuple a)) w') hr
  rw [hrun]
  split at hv
  · rename_i v1
    simp only [Option.some.injEq] at hv; subst hv
    cases hl with
    | @cons _ u _ m h1 h2 =>
      cases h2
      exact ⟨u, h1, by simp⟩
  · rename_i vs' hne
    split at hv
    · rename_i hall
      simp only [Option.some.injEq] at hv; subst hv
      have hne1 : us.length ≠ 1 := by
        intro h1
        have := hl.length
        rw [h1] at this
        match vs, this with
        | [v], _ => exact hne v rfl
      refine ⟨.tuple us.toArray, .tup ?_, by simp [hne1]⟩
      have key : ∀ (l m : List Value), L2 (VR ι) l m → l.all (fun v => match v with | .tuple vs => vs.size == 0 | _ => true) = true → L2 (AR ι) l m := by
        intro l m hlm
        induction hlm with
        | nil => intro _; exact .nil
        | cons h1 _ ih =>
          intro hc
          simp only [List.all_cons, Bool.and_eq_true] at hc
          refine .cons ?_ (ih hc.2)
          cases h1 with
          | one h1 => exact h1
          | @tup a b h1 =>
            have : a = [] := by simpa using hc.1
            subst this
            exact .junk _
      exact key _ _ hl hall
    · simp at hv

/-- A contract, from the body. -/
theorem CallsV.intro (hD : DrawSound P) {f : FuncId} {fn : Func} {c : Code} {args : List Value} {Q : Value → Heap → Prop} (hf : P.funcs[f]? = some fn) (hb : fn.body = some c) (hok : fnOk fn c = true) (hlen : args.length ≤ fn.ntmps)
    (hv : wpV P c (startEnv args) h (retV P fn Q)) : CallsV P f args h Q := by
  intro B0 ι w us r ha
  unfold fnOk at hok
  simp only [Bool.and_eq_true] at hok
  obtain ⟨⟨h1, h2⟩, _⟩ := hok
  refine calls_of_wp hf hb ?_
  have hul := ha.length
  refine code_sound hD (B0 := B0) (ι := ι) (n := fn.ntmps) c (startEnv args) h _ w _ _ h1 hv ⟨by simp; omega, rfl, fun t ht => ?_⟩ r ?_
  · unfold startEnv
    rcases Nat.lt_or_ge t args.length with hlt | hge
    · obtain ⟨u, hu, hr⟩ := ha.get t _ (List.getElem?_eq_getElem hlt)
      have e1 : args.getD t UN = args[t] := by simp [List.getD, hlt]
      rw [e1]
      have e2 : ((us.toArray ++ Array.replicate (fn.ntmps - us.toArray.size) undef).getD t undef) = u := by
        have h3 : t < us.length := by omega
        have h4 : us[t] = u := by
          have := hu
          rw [List.getElem?_eq_getElem h3] at this
          simpa using this
        simp [h3, Array.getElem?_append, h4]
      rw [e2]; exact hr
    · have e1 : args.getD t UN = UN := by simp [List.getD, hge]
      rw [e1]; exact .one (.junk _)
  · intro x e' h' ι' a' w' hq hE hR hp hB
    have fin : ∀ (hq : match resultsV P fn e' h' with | some v => Q v h' | none => False), a'.defers = [] ∧ ∃ v, (results fn a'.tmps).run P w' = .ok v w' ∧ ∃ v_1 u h'_1 ι', Ending.returned v = .returned u ∧ Q v_1 h'_1 ∧ VR ι' v_1 u ∧ Rel P B0 ι' h'_1 w' ∧ ι <+: ι' ∧ Below B0 w w' := by
      intro hq
      split at hq
      · rename_i v hv
        obtain ⟨u, hu, hr⟩ := results_sound hE hR h2 hv
        exact ⟨hE.defers, u, hr, v, u, h', ι', rfl, hq, hu, hR, hp, hB⟩
      · exact hq.elim
    cases x with
    | norm => exact fin hq
    | ret => exact fin hq
    | exit id => exact hq.elim

end Go.V
end

section
/- The layer V, part 13: a region that draws its order. -/
namespace Go.V
open Go Go.RowKit
variable {P : Program} [Laid P] {B0 : Nat} {ι : List Place} {h : Heap} {w : World}

theorem CallsV.mono {f : FuncId} {args : List Value} {K K' : Value → Heap → Prop} (hk : ∀ v h, K v h → K' v h) (hc : CallsV P f args h K) : CallsV P f args h K' := by
  intro B0 ι w us r ha
  refine Calls.mono (hc B0 ι w us r ha) ?_
  rintro e w' ⟨v, u, h', ι', he, hq, rest⟩
  exact ⟨v, u, h', ι', he, hk _ _ hq, rest⟩
theorem CallV.mono {f : FuncId} {args : List Value} {K K' : Value → Heap → Prop} (hk : ∀ v h, K v h → K' v h) (hc : CallV P f args h K) : CallV P f args h K' := by
  rcases hc with ⟨h1, h2⟩ | ⟨v, h1, h2⟩
  · exact .inl ⟨h1, h2.mono hk⟩
  · exact .inr ⟨v, h1, hk _ _ h2⟩
theorem callDyn_mono {g : Value} {args : List Value} {K K' : Value → Heap → Prop} (hk : ∀ v h, K v h → K' v h) (hc : callDyn P g args h K) : callDyn P g args h K' := by
  unfold callDyn at hc ⊢
  split at hc
  · exact hc.mono hk
  · exact hc.elim
theorem optK_mono {o : Option Value} {K K' : Value → Heap → Prop} (hk : ∀ v h, K v h → K' v h) (hc : optK o h K) : optK o h K' := by
  cases o with | none => exact hc.elim | some v => exact hk _ _ hc
theorem optH_mono {o : Option (Value × Heap)} {K K' : Value → Heap → Prop} (hk : ∀ v h, K v h → K' v h) (hc : optH o K) : optH o K' := by
  cases o with | none => exact hc.elim | some v => exact hk _ _ hc
theorem builtinV_mono {b : Builtin} {ts : Array TypeId} {args : List Value} {K K' : Value → Heap → Prop} (hk : ∀ v h, K v h → K' v h) (hc : builtinV P b ts args h K) : builtinV P b ts args h K' := by
  unfold builtinV at hc ⊢
  split at hc
  · exact ⟨hc.1, hk _ _ hc.2⟩
  · exact ⟨hc.1, hk _ _ hc.2⟩
  · refine ⟨hc.1, ?_⟩
    have := hc.2
    split at this
    · exact hk _ _ this
    · exact this.elim
  · split at hc
    · exact hk _ _ hc
    · exact hc.elim
  · split at hc
    · exact hk _ _ hc
    · exact hc.elim
  · split at hc
    · exact hk _ _ hc
    · exact hc.elim
  · exact hc.elim

theorem opV_mono {op : Op} {e : Env} {K K' : Value → Heap → Prop} (hk : ∀ v h, K v h → K' v h) (hc : opV P op e h K) : opV P op e h K' := by
  cases op <;> simp only [opV] at hc ⊢ <;> try first | exact hc | exact hk _ _ hc | exact optK_mono hk hc | exact optH_mono hk hc
  case pick c a b =>
    split at hc
    · exact hk _ _ hc
    · exact hk _ _ hc
    · exact hc.elim
  case alloc t =>
    split at hc
    · exact hk _ _ hc
    · exact hc.elim
  case box t x =>
    split at hc
    · exact ⟨hc.1, hk _ _ hc.2⟩
    · exact hc.elim
  case store t a x =>
    split at hc
    · exact hk _ _ hc
    · exact hc.elim
  case binOp op t x y t2 =>
    split at hc
    · exact hk _ _ hc
    · obtain ⟨h1, h2, v, h3, h4, h5⟩ := hc
      exact ⟨h1, h2, v, h3, h4, hk _ _ h5⟩
  case makeFunc fn a b => exact ⟨hc.1, hk _ _ hc.2⟩
  case slice t x lo hi mx =>
    cases mx with
    | none => exact optK_mono hk hc
    | some _ => exact hc.elim
  case call c =>
    split at hc
    · exact builtinV_mono hk hc
    · exact callDyn_mono hk hc
    · exact hc.elim

/-- Only the operands' values count. -/
theorem opV_congr {op : Op} {e e' : Env} {K : Value → Heap → Prop} (he : ∀ x ∈ op.operands.toList, evO e x = evO e' x) (hc : opV P op e h K) : opV P op e' h K := by
  have hmap : ∀ l : List Operand, (∀ x ∈ l, x ∈ op.operands.toList) → l.map (evO e) = l.map (evO e') := fun l hl => List.map_congr_left fun x hx => he x (hl x hx)
  have hparts : ∀ l : List (Nat × Operand), (∀ x ∈ l, x.2 ∈ op.operands.toList) → (l.map fun (i, x) => (i, evO e x)) = l.map fun (i, x) => (i, evO e' x) := fun l hl => List.map_congr_left fun x hx => by simp only [he x.2 (hl x hx)]
  cases op <;> simp only [opV] at hc ⊢ <;> try first
    | exact hc
    | (rename_i x; rw [← he x (by simp [Op.operands])]; exact hc)
    | (rename_i t x; rw [← he x (by simp [Op.operands])]; exact hc)
    | (rename_i t x y; rw [← he x (by simp [Op.operands]), ← he y (by simp [Op.operands])]; exact hc)
  case pick c a b => rw [← he c (by simp [Op.operands]), ← he a (by simp [Op.operands]), ← he b (by simp [Op.operands])]; exact hc
  case build t ps => rw [← hparts ps.toList (fun x hx => by simp [Op.operands]; exact ⟨x.1, by simpa using hx⟩)]; exact hc
  case buildSlice t n ps => rw [← hparts ps.toList (fun x hx => by simp [Op.operands]; exact ⟨x.1, by simpa using hx⟩)]; exact hc
  case binOp op t x y t2 => rw [← he x (by simp [Op.operands]), ← he y (by simp [Op.operands])]; exact hc
  case makeFunc fn a b =>
    rw [← hmap a.toList (fun x hx => by simp [Op.operands]; exact .inl (by simpa using hx)), ← hmap b.toList (fun x hx => by simp [Op.operands]; exact .inr (by simpa using hx))]
    refine ⟨?_, hc.2⟩
    have := hc.1
    simp only [Bool.and_eq_true, List.all_eq_true] at this ⊢
    exact ⟨fun x hx => by rw [← he x (by simp [Op.operands]; exact .inl (by simpa using hx))]; exact this.1 x hx, fun x hx => by rw [← he x (by simp [Op.operands]; exact .inr (by simpa using hx))]; exact this.2 x hx⟩
  case slice t x lo hi mx =>
    cases mx with
    | some _ => exact hc
    | none =>
      rw [← he x (by simp [Op.operands])]
      have : sliceV P t e (evO e x) lo hi = sliceV P t e' (evO e x) lo hi := by
        have h1 : ∀ m, loV e lo m = loV e' lo m := by
          intro m
          cases lo with
          | none => rfl
          | some y => simp only [loV]; rw [he y (by simp [Op.operands])]
        have h2 : ∀ c d, hiV e hi c d = hiV e' hi c d := by
          intro c d
          cases hi with
          | none => rfl
          | some y => simp only [hiV]; rw [he y (by simp [Op.operands])]
        unfold sliceV
        simp only [h1, h2]
      rw [← this]; exact hc
  case fieldAddr t x f => rw [← he x (by simp [Op.operands])]; exact hc
  case field t x f => rw [← he x (by simp [Op.operands])]; exact hc
  case extract x i => rw [← he x (by simp [Op.operands])]; exact hc
  case call c =>
    obtain ⟨callee, args, ats⟩ := c
    cases callee with
    | builtin b =>
      simp only [] at hc ⊢
      rw [← hmap args.toList (fun x hx => by simp [Op.operands, Call.operands]; simpa using hx)]; exact hc
    | value f =>
      simp only [] at hc ⊢
      rw [← hmap args.toList (fun x hx => by simp [Op.operands, Call.operands]; right; simpa using hx), ← he f (by simp [Op.operands, Call.operands])]; exact hc
    | invoke x m => exact hc

def isLoad : Op → Bool | .load _ _ => true | _ => false

theorem tInt_kind {t : TypeId} (h : (tInt P t).isNone = false) : (tk P t).map (·.kind) ≠ some 3 ∧ tElem P t = none := by
  cases hh : tInt P t with
  | none => simp [hh] at h
  | some k =>
    have hu := tInt_some hh
    refine ⟨fun h3 => ?_, ?_⟩
    · have := kind_str h3
      rw [hu] at this; simp at this
    · unfold tElem; rw [hu]

/-- What only reckons. -/
theorem opV_pure {op : Op} {e : Env} {K : Value → Heap → Prop} (h1 : effectful P op = false) (h2 : isLoad op = false) (hc : opV P op e h K) : ∃ v, K v h ∧ ∀ h2 K2, K2 v h2 → opV P op e h2 K2 := by
  have hopt : ∀ {o : Option Value}, optK o h K → ∃ v, K v h ∧ ∀ h2 K2, K2 v h2 → optK o h2 K2 := by
    intro o ho
    cases o with
    | none => exact ho.elim
    | some v => exact ⟨v, ho, fun _ _ hk => hk⟩
  cases op <;> simp only [opV] at hc ⊢ <;> try first | exact hc.elim | exact ⟨_, hc, fun _ _ hk => hk⟩ | exact hopt hc | (simp [effectful] at h1; done) | (simp [isLoad] at h2; done)
  case pick c a b =>
    split at hc
    · exact ⟨_, hc, fun _ _ hk => hk⟩
    · exact ⟨_, hc, fun _ _ hk => hk⟩
    · exact hc.elim
  case binOp op t x y t2 =>
    split at hc
    · exact ⟨_, hc, fun _ _ hk => hk⟩
    · obtain ⟨g1, g2, v, g3, g4, g5⟩ := hc
      exact ⟨v, g5, fun _ _ hk => ⟨g1, g2, v, g3, g4, hk⟩⟩
  case makeFunc fn a b => exact ⟨_, hc.2, fun _ _ hk => ⟨hc.1, hk⟩⟩
  case slice t x lo hi mx =>
    cases mx with
    | none => exact hopt hc
    | some _ => exact hc.elim
  case convert s t x =>
    obtain ⟨n1, n2⟩ := tInt_kind (by simpa [effectful] using h1)
    obtain ⟨v, h', hv, hk⟩ := optH_some hc
    unfold convV at hv
    split at hv
    · rename_i k n heq
      simp only [Option.bind_eq_some_iff, Option.map_eq_some_iff, Prod.mk.injEq] at hv
      obtain ⟨ks, hks, kt, hkt, rfl, rfl⟩ := hv
      refine ⟨_, hk, fun h2 K2 hk2 => ?_⟩
      simp only [convV, hks, hkt, heq, Option.bind_some, Option.map_some, optH]
      exact hk2
    · split at hv
      · rename_i hcc; exact absurd hcc.2 n1
      · rw [n2] at hv; simp at hv
    · simp only [Option.bind_eq_some_iff] at hv
      obtain ⟨el, _, hv⟩ := hv
      split at hv
      · rename_i hcc; exact absurd hcc.2.2 n1
      · simp at hv
    · simp at hv
  case call c =>
    obtain ⟨callee, args, ats⟩ := c
    cases callee with
    | builtin b =>
      simp only [effectful, Bool.or_eq_false_iff, beq_eq_false_iff_ne] at h1
      simp only [] at hc ⊢
      unfold builtinV at hc ⊢
      split at hc
      · exact ⟨_, hc.2, fun _ _ hk => ⟨hc.1, hk⟩⟩
      · exact ⟨_, hc.2, fun _ _ hk => ⟨hc.1, hk⟩⟩
      · exact absurd rfl h1.1
      · exact absurd rfl h1.2
      · split at hc
        · exact ⟨_, hc, fun _ _ hk => hk⟩
        · exact hc.elim
      · split at hc
        · exact ⟨_, hc, fun _ _ hk => hk⟩
        · exact hc.elim
      · exact hc.elim
    | value f => simp [effectful] at h1
    | invoke x m => exact hc.elim


/-! ### one operation out of its turn -/
theorem putV_comm {e : Env} {x y : Option Tmp} {v u : Value} (h : ∀ d, x = some d → y ≠ some d) : putV (putV e x v) y u = putV (putV e y u) x v := by
  cases x with
  | none => rfl
  | some d =>
    cases y with
    | none => rfl
    | some d' =>
      have hne : d' ≠ d := fun he => h d rfl (by rw [he])
      funext s
      simp only [putV, upd]
      by_cases h1 : s = d' <;> by_cases h2 : s = d <;> simp_all

structure Apart (all : Array Oper) (x y : Oper) : Prop where
  rd : ∀ d, x.dst = some d → d ∉ looks all y
  wr : ∀ d, x.dst = some d → y.dst ≠ some d
  dr : ∀ d, y.dst = some d → d ∉ looks all x

theorem apartO_spec {all : Array Oper} {x y : Oper} (h : apartO all x y = true) : Apart all x y := by
  unfold apartO at h
  simp only [Bool.and_eq_true] at h
  obtain ⟨h1, h2⟩ := h
  refine ⟨fun d hd => ?_, fun d hd => ?_, fun d hd => ?_⟩
  · rw [hd] at h1; simp at h1; exact h1.1
  · rw [hd] at h1; simp at h1; exact h1.2
  · rw [hd] at h2; simp at h2; exact h2

theorem evO_put {e : Env} {d : Option Tmp} {v : Value} {x : Operand} (h : ∀ t, d = some t → x ≠ .tmp t) : evO (putV e d v) x = evO e x := by
  cases d with
  | none => rfl
  | some t =>
    cases x with
    | tmp s =>
      have : s ≠ t := fun hs => h t rfl (by rw [hs])
      simp [evO, putV, upd, this]
    | _ => rfl

theorem looks_op {all : Array Oper} {o : Oper} {d : Option Tmp} (h : ∀ t, d = some t → t ∉ looks all o) : ∀ x ∈ o.op.operands.toList, ∀ t, d = some t → x ≠ .tmp t := by
  intro x hx t ht hxt
  subst hxt
  refine h t ht ?_
  unfold looks
  refine List.mem_append_left _ ?_
  rw [List.mem_flatMap]
  exact ⟨_, hx, by simp [slotOf]⟩

theorem guardV_put {all : Array Oper} {o : Oper} {e : Env} {d : Option Tmp} {v : Value} (h : ∀ t, d = some t → t ∉ looks all o) : guardV all o (putV e d v) = guardV all o e := by
  unfold guardV
  split
  · rfl
  · rename_i j want hg
    split
    · rename_i t ht
      have hne : putV e d v t = e t := by
        cases d with
        | none => rfl
        | some s =>
          have : t ≠ s := by
            rintro rfl
            refine h t rfl ?_
            unfold looks
            refine List.mem_append_right _ ?_
            rw [hg]; simp [ht]
          simp [putV, upd, this]
      rw [hne]
    · rfl

theorem opV_put {h' : Heap} {all : Array Oper} {o : Oper} {e : Env} {d : Option Tmp} {v : Value} {K : Value → Heap → Prop} (h : ∀ t, d = some t → t ∉ looks all o) : opV P o.op (putV e d v) h' K ↔ opV P o.op e h' K :=
  ⟨opV_congr fun x hx => evO_put (looks_op h x hx), opV_congr fun x hx => (evO_put (looks_op h x hx)).symm⟩

/-- An operation now, and what then holds. -/
def stepD (P : Program) [Laid P] (all : Array Oper) (o : Oper) (e : Env) (h : Heap) (held : Held) (C : Env → Heap → Prop) : Prop :=
  match guardV all o e with
  | some true =>
    match o.op with
    | .load t a => ∃ v, loadV P t (evO e a) h = some v ∧ C (putV e o.dst v) h
    | op => if effectful P op then opV P op e h (fun v h' => heldOk P held h' ∧ C (putV e o.dst v) h') else ∃ v, (∀ h2 K2, K2 v h2 → opV P op e h2 K2) ∧ C (putV e o.dst v) h
  | some false => C (putV e o.dst SK) h
  | none => False

theorem opsE_cons {all : Array Oper} {o : Oper} {os : List Oper} {e : Env} {held : Held} {K : Env → Heap → Held → Prop} : opsE P all (o :: os) e h held K =
    (match guardV all o e with
    | some true =>
      match o.op with
      | .load t a => match loadV P t (evO e a) h with
        | some v => opsE P all os (putV e o.dst v) h ((t, evO e a, v) :: held) K
        | none => False
      | op => opV P op e h fun v h' =>
          if effectful P op then heldOk P held h' ∧ opsE P all os (putV e o.dst v) h' held K
          else opsE P all os (putV e o.dst v) h' held K
    | some false => opsE P all os (putV e o.dst SK) h held K
    | none => False) := rfl

theorem opsE_cons_load {all : Array Oper} {o : Oper} {os : List Oper} {e : Env} {held : Held} {K : Env → Heap → Held → Prop} {t : TypeId} {a : Operand} (hg : guardV all o e = some true) (ho : o.op = .load t a) :
    opsE P all (o :: os) e h held K ↔ ∃ v, loadV P t (evO e a) h = some v ∧ opsE P all os (putV e o.dst v) h ((t, evO e a, v) :: held) K := by
  rw [opsE_cons, hg, ho]
  simp only []
  cases loadV P t (evO e a) h with
  | none => simp
  | some v => simp

theorem opsE_cons_op {all : Array Oper} {o : Oper} {os : List Oper} {e : Env} {held : Held} {K : Env → Heap → Held → Prop} (hg : guardV all o e = some true) (ho : isLoad o.op = false) :
    opsE P all (o :: os) e h held K ↔ opV P o.op e h fun v h' => if effectful P o.op then heldOk P held h' ∧ opsE P all os (putV e o.dst v) h' held K else opsE P all os (putV e o.dst v) h' held K := by
  rw [opsE_cons, hg]
  simp only []
  split
  · rename_i t a heq; rw [heq] at ho; simp [isLoad] at ho
  · exact Iff.rfl

theorem opsE_cons_off {all : Array Oper} {o : Oper} {os : List Oper} {e : Env} {held : Held} {K : Env → Heap → Held → Prop} (hg : guardV all o e = some false) :
    opsE P all (o :: os) e h held K ↔ opsE P all os (putV e o.dst SK) h held K := by
  rw [opsE_cons, hg]

theorem opsE_cons_none {all : Array Oper} {o : Oper} {os : List Oper} {e : Env} {held : Held} {K : Env → Heap → Held → Prop} (hg : guardV all o e = none) : ¬ opsE P all (o :: os) e h held K := by
  rw [opsE_cons, hg]
  exact id

theorem isLoad_cases (op : Op) : (∃ t a, op = .load t a) ∨ isLoad op = false := by
  cases op with
  | load t a => exact .inl ⟨t, a, rfl⟩
  | _ => exact .inr rfl

theorem opsE_weaken {all : Array Oper} {K : Env → Heap → Held → Prop} (hK : ∀ e h held held', (∀ x ∈ held', x ∈ held) → K e h held → K e h held') : ∀ (os : List Oper) (e : Env) (h : Heap) (held held' : Held), (∀ x ∈ held', x ∈ held) → opsE P all os e h held K → opsE P all os e h held' K := by
  intro os
  induction os with
  | nil => intro e h held held' hs hd; exact hK _ _ _ _ hs hd
  | cons o os ih =>
    intro e h held held' hsub hd
    cases hg : guardV all o e with
    | none => exact (opsE_cons_none hg hd).elim
    | some b =>
      cases b with
      | false => exact (opsE_cons_off hg).2 (ih _ _ _ _ hsub ((opsE_cons_off hg).1 hd))
      | true =>
        rcases isLoad_cases o.op with ⟨t, a, ho⟩ | ho
        · obtain ⟨v, hl, hd⟩ := (opsE_cons_load hg ho).1 hd
          refine (opsE_cons_load hg ho).2 ⟨v, hl, ih _ _ _ _ (fun x hx => ?_) hd⟩
          rcases List.mem_cons.1 hx with rfl | hx
          · exact List.mem_cons_self
          · exact List.mem_cons_of_mem _ (hsub x hx)
        · refine (opsE_cons_op hg ho).2 (opV_mono (fun v h' hv => ?_) ((opsE_cons_op hg ho).1 hd))
          split at hv
          · rename_i he
            rw [if_pos he]
            exact ⟨fun x hx => hv.1 x (hsub x hx), ih _ _ _ _ hsub hv.2⟩
          · rename_i he
            rw [if_neg he]
            exact ih _ _ _ _ hsub hv

/-- stepD, by the operation's form. -/
theorem stepD_load {all : Array Oper} {o : Oper} {e : Env} {held : Held} {C : Env → Heap → Prop} {t : TypeId} {a : Operand} (hg : guardV all o e = some true) (ho : o.op = .load t a) :
    stepD P all o e h held C ↔ ∃ v, loadV P t (evO e a) h = some v ∧ C (putV e o.dst v) h := by
  unfold stepD; rw [hg, ho]
theorem stepD_eff {all : Array Oper} {o : Oper} {e : Env} {held : Held} {C : Env → Heap → Prop} (hg : guardV all o e = some true) (ho : isLoad o.op = false) (he : effectful P o.op = true) :
    stepD P all o e h held C ↔ opV P o.op e h (fun v h' => heldOk P held h' ∧ C (putV e o.dst v) h') := by
  unfold stepD; rw [hg]; simp only []
  split
  · rename_i t a heq; rw [heq] at ho; simp [isLoad] at ho
  · rw [if_pos he]
theorem stepD_pure {all : Array Oper} {o : Oper} {e : Env} {held : Held} {C : Env → Heap → Prop} (hg : guardV all o e = some true) (ho : isLoad o.op = false) (he : effectful P o.op = false) :
    stepD P all o e h held C ↔ ∃ v, (∀ h2 K2, K2 v h2 → opV P o.op e h2 K2) ∧ C (putV e o.dst v) h := by
  unfold stepD; rw [hg]; simp only []
  split
  · rename_i t a heq; rw [heq] at ho; simp [isLoad] at ho
  · rw [if_neg (by simp [he])]
theorem stepD_off {all : Array Oper} {o : Oper} {e : Env} {held : Held} {C : Env → Heap → Prop} (hg : guardV all o e = some false) : stepD P all o e h held C ↔ C (putV e o.dst SK) h := by
  unfold stepD; rw [hg]
theorem stepD_none {all : Array Oper} {o : Oper} {e : Env} {held : Held} {C : Env → Heap → Prop} (hg : guardV all o e = none) : ¬ stepD P all o e h held C := by
  unfold stepD; rw [hg]; exact id

/-- From a step behind another operation's slot to a step now. -/
theorem stepD_back {all : Array Oper} {o : Oper} {e : Env} {held held' : Held} {d : Option Tmp} {u : Value} {C1 C : Env → Heap → Prop} (hd : ∀ t, d = some t → t ∉ looks all o) (hw : ∀ t, d = some t → o.dst ≠ some t) (hsub : ∀ x ∈ held', x ∈ held)
    (hC : ∀ v h', (h' = h ∨ heldOk P held h') → C1 (putV (putV e o.dst v) d u) h' → C (putV e o.dst v) h') (hs : stepD P all o (putV e d u) h held C1) : stepD P all o e h held' C := by
  have hcomm : ∀ v, putV (putV e d u) o.dst v = putV (putV e o.dst v) d u := fun v => putV_comm fun t ht => hw t ht
  have hge := guardV_put (all := all) (o := o) (e := e) (v := u) hd
  cases hg : guardV all o e with
  | none => rw [hg] at hge; exact (stepD_none hge hs).elim
  | some b =>
    rw [hg] at hge
    cases b with
    | false =>
      have := (stepD_off hge).1 hs
      rw [hcomm] at this
      exact (stepD_off hg).2 (hC _ _ (.inl rfl) this)
    | true =>
      rcases isLoad_cases o.op with ⟨t, a, ho⟩ | ho
      · obtain ⟨v, hl, hc⟩ := (stepD_load hge ho).1 hs
        rw [hcomm] at hc
        have ha : evO (putV e d u) a = evO e a := evO_put (looks_op hd a (by rw [ho]; simp [Op.operands]))
        rw [ha] at hl
        exact (stepD_load hg ho).2 ⟨v, hl, hC _ _ (.inl rfl) hc⟩
      · cases he : effectful P o.op with
        | true =>
          have := (opV_put (v := u) hd).1 ((stepD_eff hge ho he).1 hs)
          refine (stepD_eff hg ho he).2 (opV_mono (fun v h' hv => ?_) this)
          obtain ⟨h1, h2⟩ := hv
          rw [hcomm] at h2
          exact ⟨fun x hx => h1 x (hsub x hx), hC _ _ (.inr h1) h2⟩
        | false =>
          obtain ⟨v, hp, hc⟩ := (stepD_pure hge ho he).1 hs
          rw [hcomm] at hc
          exact (stepD_pure hg ho he).2 ⟨v, fun h2 K2 hk => (opV_put (v := u) hd).1 (hp h2 K2 hk), hC _ _ (.inl rfl) hc⟩

/-- An operation that nothing ahead of it holds back, taken out of its turn. -/
theorem remove {all : Array Oper} {K : Env → Heap → Held → Prop} (hK : ∀ e h held held', (∀ x ∈ held', x ∈ held) → K e h held → K e h held') {o : Oper} {l2 : List Oper} : ∀ (l1 : List Oper) (e : Env) (h : Heap) (held : Held), (∀ x ∈ l1, effectful P x.op = false ∧ Apart all x o) → opsE P all (l1 ++ o :: l2) e h held K →
    stepD P all o e h held fun e' h' => opsE P all (l1 ++ l2) e' h' held K := by
  intro l1
  induction l1 with
  | nil =>
    intro e h held _ hd
    simp only [List.nil_append] at hd ⊢
    cases hg : guardV all o e with
    | none => exact (opsE_cons_none hg hd).elim
    | some b =>
      cases b with
      | false => exact (stepD_off hg).2 ((opsE_cons_off hg).1 hd)
      | true =>
        rcases isLoad_cases o.op with ⟨t, a, ho⟩ | ho
        · obtain ⟨v, hl, hd⟩ := (opsE_cons_load hg ho).1 hd
          exact (stepD_load hg ho).2 ⟨v, hl, opsE_weaken hK _ _ _ _ _ (fun x hx => List.mem_cons_of_mem _ hx) hd⟩
        · have hd := (opsE_cons_op hg ho).1 hd
          cases he : effectful P o.op with
          | true =>
            simp only [he, if_true] at hd
            exact (stepD_eff hg ho he).2 hd
          | false =>
            simp only [he, if_false, Bool.false_eq_true] at hd
            obtain ⟨v, hk, hp⟩ := opV_pure he ho hd
            exact (stepD_pure hg ho he).2 ⟨v, hp, hk⟩
  | cons x l1 ih =>
    intro e h held hall hd
    obtain ⟨hxe, hxa⟩ := hall x (by simp)
    have hall' : ∀ y ∈ l1, effectful P y.op = false ∧ Apart all y o := fun y hy => hall y (by simp [hy])
    simp only [List.cons_append] at hd ⊢
    have hxput : ∀ v, guardV all x (putV e o.dst v) = guardV all x e := fun v => guardV_put hxa.dr
    cases hg : guardV all x e with
    | none => exact (opsE_cons_none hg hd).elim
    | some b =>
      cases b with
      | false =>
        have hd := (opsE_cons_off hg).1 hd
        refine stepD_back hxa.rd hxa.wr (fun _ hx => hx) ?_ (ih _ _ _ hall' hd)
        intro v h' _ hc
        exact (opsE_cons_off (by rw [hxput, hg])).2 hc
      | true =>
        rcases isLoad_cases x.op with ⟨t, a, ho⟩ | ho
        · obtain ⟨vx, hl, hd⟩ := (opsE_cons_load hg ho).1 hd
          have hst := ih _ _ _ hall' hd
          refine stepD_back (held' := held) hxa.rd hxa.wr (fun _ hx => List.mem_cons_of_mem _ hx) ?_ hst
          intro v h' hh hc
          have ha : evO (putV e o.dst v) a = evO e a := evO_put (looks_op hxa.dr a (by rw [ho]; simp [Op.operands]))
          have hl' : loadV P t (evO e a) h' = some vx := by
            rcases hh with rfl | hh
            · exact hl
            · exact hh (t, evO e a, vx) List.mem_cons_self
          refine (opsE_cons_load (by rw [hxput, hg]) ho).2 ⟨vx, by rw [ha]; exact hl', ?_⟩
          rw [ha]; exact hc
        · have hd := (opsE_cons_op hg ho).1 hd
          simp only [hxe, if_false, Bool.false_eq_true] at hd
          obtain ⟨vx, hk, hp⟩ := opV_pure hxe ho hd
          have hst := ih _ _ _ hall' hk
          refine stepD_back hxa.rd hxa.wr (fun _ hx => hx) ?_ hst
          intro v h' _ hc
          refine (opsE_cons_op (by rw [hxput, hg]) ho).2 ?_
          simp only [hxe, if_false, Bool.false_eq_true]
          exact (opV_put hxa.dr).2 (hp h' _ hc)

end Go.V
end

section
/- The layer V, part 14: whatever order a region draws. -/
namespace Go.V
open Go Go.RowKit
variable {P : Program} [Laid P] {B0 : Nat} {ι : List Place} {h : Heap} {w : World}

/-- A step now, in the machine. -/
theorem stepD_sound (r : Rel P B0 ι h w) {n : Nat} {e : Env} {a : Act} {all : Array Oper} {o : Oper} {held : Held} {C : Env → Heap → Prop} (hall : ∀ o ∈ all.toList, opsIn n o) (hE : EnvR ι n e a) (hok : opsIn n o) (hs : stepD P all o e h held C)
    {next : Act → World → Prop} {Q : Go.Exit → Act → World → Prop} (hn : ∀ e' h' ι' a' w', C e' h' → EnvR ι' n e' a' → Rel P B0 ι' h' w' → ι <+: ι' → Below B0 w w' → next a' w') :
    if Region.wanted o (yielded all a.tmps) then o.wp P a w next Q ∨ (o.asks P a w ∧ LetsOut Q) else next (a.put o.dst undef) w := by
  cases hg : guardV all o e with
  | none => exact (stepD_none hg hs).elim
  | some b =>
    cases b with
    | false =>
      rw [if_neg (by rw [guard_sound hE hall hg]; simp)]
      exact hn _ _ ι _ w ((stepD_off hg).1 hs) (hE.put hok.2 (.one .skip)) r List.prefix_rfl (Below.refl _ _)
    | true =>
      rw [if_pos (guard_sound hE hall hg)]
      left
      have fin : ∀ {K : Value → Heap → Prop}, opV P o.op e h K → (∀ v h', K v h' → C (putV e o.dst v) h') → o.wp P a w next Q := by
        intro K hv hk
        refine op_sound r hE hok hv ?_
        intro v u h' ι' w' hkv hvr hR hp hB
        exact hn _ _ ι' _ w' (hk v h' hkv) ((hE.pre hp).put hok.2 hvr) hR hp hB
      rcases isLoad_cases o.op with ⟨t, x, ho⟩ | ho
      · obtain ⟨v, hl, hc⟩ := (stepD_load hg ho).1 hs
        refine fin (K := fun v' h' => v' = v ∧ h' = h) ?_ (by rintro v' h' ⟨rfl, rfl⟩; exact hc)
        rw [ho]
        simp [opV, hl, optK]
      · cases he : effectful P o.op with
        | true => exact fin ((stepD_eff hg ho he).1 hs) (fun v h' hk => hk.2)
        | false =>
          obtain ⟨v, hp, hc⟩ := (stepD_pure hg ho he).1 hs
          refine fin (K := fun v' h' => v' = v ∧ h' = h) (hp h _ ⟨rfl, rfl⟩) (by rintro v' h' ⟨rfl, rfl⟩; exact hc)

/-! ### the masks -/
theorem fold_bits (g : Nat → Nat) (S : Nat → Prop) (hS : ∀ d, S d → ∀ k, (g d).testBit k = true → S k) : ∀ (l : List Go.Edge) (s : Nat), (∀ k, s.testBit k = true → S k) → (∀ x ∈ l, S x.on) →
    ∀ k, (l.foldl (fun s x => s ||| 2 ^ x.on ||| g x.on) s).testBit k = true → S k := by
  intro l
  induction l with
  | nil => intro s hs _ k hk; exact hs k hk
  | cons x l ih =>
    intro s hs hl k hk
    simp only [List.foldl_cons] at hk
    refine ih _ ?_ (fun y hy => hl y (by simp [hy])) k hk
    intro k hk
    simp only [Nat.testBit_or, Bool.or_eq_true, Nat.testBit_two_pow] at hk
    rcases hk with (hk | hk) | hk
    · exact hs k hk
    · have : x.on = k := by simpa using hk
      subst this
      exact hl x (by simp)
    · exact hS x.on (hl x (by simp)) k hk

/-- What a mask names lies in whatever holds the operation's own edges and is closed. -/
theorem masks_closed {ops : List Oper} (S : Nat → Prop) (hS : ∀ j o, ops[j]? = some o → S j → ∀ x ∈ bnd o, S x.on) : ∀ (os : List Oper) (acc : List Nat), (∀ i o, os[i]? = some o → ops[acc.length + i]? = some o) →
    (∀ d, S d → ∀ k, (acc.getD d 0).testBit k = true → S k) → ∀ (j : Nat) o, ops[j]? = some o → j < acc.length + os.length → (∀ x ∈ bnd o, S x.on) →
    (∀ j o, j < acc.length → ops[j]? = some o → (∀ x ∈ bnd o, S x.on) → ∀ k, (acc.getD j 0).testBit k = true → S k) → ∀ k, ((masks acc os).getD j 0).testBit k = true → S k := by
  intro os
  induction os with
  | nil =>
    intro acc _ hacc j o ho hj hdeps hall k hk
    simp only [masks] at hk
    exact hall j o (by simpa using hj) ho hdeps k hk
  | cons o1 os ih =>
    intro acc hos hacc j o ho hj hdeps hall k hk
    simp only [masks] at hk
    have hm : ∀ (_ : ∀ x ∈ bnd o1, S x.on), ∀ k, ((bnd o1).foldl (fun s x => s ||| 2 ^ x.on ||| acc.getD x.on 0) 0).testBit k = true → S k := fun h1 => fold_bits (fun d => acc.getD d 0) S hacc (bnd o1) 0 (by simp) h1
    have ho1 : ops[acc.length]? = some o1 := by simpa using hos 0 o1 rfl
    refine ih (acc ++ [(bnd o1).foldl (fun s x => s ||| 2 ^ x.on ||| acc.getD x.on 0) 0]) (fun i o hi => ?_) ?_ j o ho (by simp at hj ⊢; omega) hdeps ?_ k hk
    · have := hos (i + 1) o (by simpa using hi)
      rw [← this]; congr 1; simp; omega
    · intro d hd k hk
      rcases Nat.lt_or_ge d acc.length with hlt | hge
      · exact hacc d hd k (by simpa [List.getD, List.getElem?_append_left hlt] using hk)
      · by_cases hde : d = acc.length
        · subst hde
          exact hm (hS _ _ ho1 hd) k (by simpa [List.getD] using hk)
        · have : ∀ X : Nat, (acc ++ [X])[d]? = none := fun X => List.getElem?_eq_none (by simp; omega)
          simp only [List.getD, this, Option.getD_none, Nat.zero_testBit, Bool.false_eq_true] at hk
    · intro j' o' hj' ho' hd' k hk
      simp at hj'
      rcases Nat.lt_or_ge j' acc.length with hlt | hge
      · exact hall j' o' hlt ho' hd' k (by simpa [List.getD, List.getElem?_append_left hlt] using hk)
      · have : j' = acc.length := by omega
        subst this
        rw [ho1] at ho'
        simp only [Option.some.injEq] at ho'; subst ho'
        exact hm hd' k (by simpa [List.getD] using hk)


theorem pairsOk_mem {ops : Array Oper} {ms : List Nat} : ∀ {r1 : List Nat} {i : Nat} {r2 : List Nat}, pairsOk P ops ms (r1 ++ i :: r2) = true → (∀ x ∈ r1, pairOk P ops ms x i = true) ∧ pairsOk P ops ms (r1 ++ r2) = true := by
  intro r1
  induction r1 with
  | nil =>
    intro i r2 h
    simp only [List.nil_append, pairsOk, Bool.and_eq_true] at h ⊢
    exact ⟨fun x hx => by simp at hx, h.2⟩
  | cons y r1 ih =>
    intro i r2 h
    simp only [List.cons_append, pairsOk, Bool.and_eq_true] at h ⊢
    obtain ⟨h1, h2⟩ := h
    obtain ⟨h3, h4⟩ := ih h2
    have h1' := List.all_eq_true.1 h1
    refine ⟨fun x hx => ?_, List.all_eq_true.2 fun z hz => h1' z (by simp at hz ⊢; rcases hz with hz | hz <;> simp [hz]), h4⟩
    rcases List.mem_cons.1 hx with rfl | hx
    · exact h1' i (by simp)
    · exact h3 x hx

theorem nodupB_spec : ∀ {l : List Nat}, nodupB l = true → l.Nodup := by
  intro l
  induction l with
  | nil => intro _; exact List.nodup_nil
  | cons x l ih =>
    intro h
    simp only [nodupB, Bool.and_eq_true, Bool.not_eq_true'] at h
    exact List.nodup_cons.2 ⟨by simpa using h.1, ih h.2⟩

theorem tailK_nil {all : Array Oper} {ms : List Nat} {K : Env → Heap → Prop} {n : Nat} {e : Env} {h : Heap} {held : Held} (ht : tailK P all ms K n [] e h held) : K e h := by
  cases n with
  | zero => exact ht
  | succ n => exact ht.1 rfl
theorem tailK_weaken {all : Array Oper} {ms : List Nat} {K : Env → Heap → Prop} : ∀ (n : Nat) (rem : List Nat) (e : Env) (h : Heap) (held held' : Held), (∀ x ∈ held', x ∈ held) → tailK P all ms K n rem e h held → tailK P all ms K n rem e h held' := by
  intro n
  induction n with
  | zero => intro rem e h held held' _ ht; exact ht
  | succ n ih =>
    intro rem e h held held' hs ht
    refine ⟨ht.1, fun i hi hm => ?_⟩
    obtain ⟨o, ho, c, hc, hd⟩ := ht.2 i hi hm
    refine ⟨o, ho, c, hc, opsE_weaken (fun e h held held' hs => ih _ e h held held' hs) _ _ _ _ _ ?_ hd⟩
    cases c with
    | none => exact hs
    | some T =>
      intro x hx
      simp only [heldCut, List.mem_filter] at hx ⊢
      exact ⟨hs x hx.1, hx.2⟩
theorem pairsOk_append {ops : Array Oper} {ms : List Nat} : ∀ {a b : List Nat}, pairsOk P ops ms a = true → pairsOk P ops ms b = true → (∀ x ∈ a, ∀ y ∈ b, pairOk P ops ms x y = true) → pairsOk P ops ms (a ++ b) = true := by
  intro a
  induction a with
  | nil => intro b _ h2 _; exact h2
  | cons x a ih =>
    intro b h1 h2 h3
    simp only [List.cons_append, pairsOk, Bool.and_eq_true] at h1 ⊢
    refine ⟨List.all_eq_true.2 fun y hy => ?_, ih h1.2 h2 fun z hz => h3 z (by simp [hz])⟩
    rcases List.mem_append.1 hy with hy | hy
    · exact List.all_eq_true.1 h1.1 y hy
    · exact h3 x (by simp) y hy
theorem opsE_mono {all : Array Oper} {K1 K2 : Env → Heap → Held → Prop} (hk : ∀ e h held, K1 e h held → K2 e h held) : ∀ (os : List Oper) (e : Env) (h : Heap) (held : Held), opsE P all os e h held K1 → opsE P all os e h held K2 := by
  intro os
  induction os with
  | nil => intro e h held hd; exact hk _ _ _ hd
  | cons o os ih =>
    intro e h held hd
    cases hg : guardV all o e with
    | none => exact (opsE_cons_none hg hd).elim
    | some b =>
      cases b with
      | false => exact (opsE_cons_off hg).2 (ih _ _ _ ((opsE_cons_off hg).1 hd))
      | true =>
        rcases isLoad_cases o.op with ⟨t, a, ho⟩ | ho
        · obtain ⟨v, hl, hd⟩ := (opsE_cons_load hg ho).1 hd
          exact (opsE_cons_load hg ho).2 ⟨v, hl, ih _ _ _ hd⟩
        · refine (opsE_cons_op hg ho).2 (opV_mono (fun v h' hv => ?_) ((opsE_cons_op hg ho).1 hd))
          split at hv
          · rename_i he
            rw [if_pos he]
            exact ⟨hv.1, ih _ _ _ hv.2⟩
          · rename_i he
            rw [if_neg he]
            exact ih _ _ _ hv
theorem tailK_mono {all : Array Oper} {ms : List Nat} {K K' : Env → Heap → Prop} (hk : ∀ e h, K e h → K' e h) : ∀ (n : Nat) (rem : List Nat) (e : Env) (h : Heap) (held : Held), tailK P all ms K n rem e h held → tailK P all ms K' n rem e h held := by
  intro n
  induction n with
  | zero => intro rem e h held ht; exact hk _ _ ht
  | succ n ih =>
    intro rem e h held ht
    refine ⟨fun hr => hk _ _ (ht.1 hr), fun i hi hm => ?_⟩
    obtain ⟨o, ho, c, hc, hd⟩ := ht.2 i hi hm
    exact ⟨o, ho, c, hc, opsE_mono (fun e h held hd => ih _ e h held hd) _ _ _ _ hd⟩
/-- The same, with what is held told: what was held, and loads of these operations. -/
theorem opsE_mono2 {all : Array Oper} {K1 K2 : Env → Heap → Held → Prop} : ∀ (os : List Oper) (e : Env) (h : Heap) (held : Held), (∀ e h held', (∀ x ∈ held', x ∈ held ∨ ∃ o ∈ os, ∃ a, o.op = .load x.1 a) → K1 e h held' → K2 e h held') → opsE P all os e h held K1 → opsE P all os e h held K2 := by
  intro os
  induction os with
  | nil => intro e h held hk hd; exact hk _ _ _ (fun x hx => .inl hx) hd
  | cons o os ih =>
    intro e h held hk hd
    have hk0 : ∀ e h held', (∀ x ∈ held', x ∈ held ∨ ∃ o ∈ os, ∃ a, o.op = .load x.1 a) → K1 e h held' → K2 e h held' := fun e h held' hx => hk e h held' fun x hm => by
      rcases hx x hm with h1 | ⟨o', ho', a, ha⟩
      · exact .inl h1
      · exact .inr ⟨o', by simp [ho'], a, ha⟩
    cases hg : guardV all o e with
    | none => exact (opsE_cons_none hg hd).elim
    | some b =>
      cases b with
      | false => exact (opsE_cons_off hg).2 (ih _ _ _ hk0 ((opsE_cons_off hg).1 hd))
      | true =>
        rcases isLoad_cases o.op with ⟨t, a, ho⟩ | ho
        · obtain ⟨v, hl, hd⟩ := (opsE_cons_load hg ho).1 hd
          refine (opsE_cons_load hg ho).2 ⟨v, hl, ih _ _ _ (fun e h held' hx => hk e h held' fun x hm => ?_) hd⟩
          rcases hx x hm with h1 | ⟨o', ho', a', ha⟩
          · rcases List.mem_cons.1 h1 with rfl | h1
            · exact .inr ⟨o, by simp, a, ho⟩
            · exact .inl h1
          · exact .inr ⟨o', by simp [ho'], a', ha⟩
        · refine (opsE_cons_op hg ho).2 (opV_mono (fun v h' hv => ?_) ((opsE_cons_op hg ho).1 hd))
          split at hv
          · rename_i he
            rw [if_pos he]
            exact ⟨hv.1, ih _ _ _ hk0 hv.2⟩
          · rename_i he
            rw [if_neg he]
            exact ih _ _ _ hk0 hv
theorem opsE_append {all : Array Oper} {K : Env → Heap → Held → Prop} {l2 : List Oper} : ∀ (l1 : List Oper) (e : Env) (h : Heap) (held : Held), opsE P all l1 e h held (fun e h held => opsE P all l2 e h held K) → opsE P all (l1 ++ l2) e h held K := by
  intro l1
  induction l1 with
  | nil => intro e h held hd; exact hd
  | cons o os ih =>
    intro e h held hd
    rw [List.cons_append]
    cases hg : guardV all o e with
    | none => exact (opsE_cons_none hg hd).elim
    | some b =>
      cases b with
      | false => exact (opsE_cons_off hg).2 (ih _ _ _ ((opsE_cons_off hg).1 hd))
      | true =>
        rcases isLoad_cases o.op with ⟨t, a, ho⟩ | ho
        · obtain ⟨v, hl, hd⟩ := (opsE_cons_load hg ho).1 hd
          exact (opsE_cons_load hg ho).2 ⟨v, hl, ih _ _ _ hd⟩
        · refine (opsE_cons_op hg ho).2 (opV_mono (fun v h' hv => ?_) ((opsE_cons_op hg ho).1 hd))
          split at hv
          · rename_i he
            rw [if_pos he]
            exact ⟨hv.1, ih _ _ _ hv.2⟩
          · rename_i he
            rw [if_neg he]
            exact ih _ _ _ hv

theorem drawSound (P : Program) [Laid P] : DrawSound P := by
  intro B0 n id ops e h ι a w K Q hall hdraw hE r hn
  obtain ⟨pre, tail, hok, hd⟩ : ∃ pre tail : List Nat, drawOk2 P ops pre tail = true ∧ opsE P ops (pre.filterMap (ops[·]?)) e h [] fun e h held => tailK P ops (masks [] ops.toList) K tail.length tail e h held := by
    rcases hdraw with ⟨order, hok, hd⟩ | hd
    · refine ⟨order, [], ?_, hd⟩
      unfold drawOk at hok
      unfold drawOk2
      simp only [List.append_nil, Bool.and_eq_true] at hok ⊢
      exact ⟨⟨hok, by simp⟩, rfl⟩
    · exact hd
  unfold drawOk2 at hok
  simp only [Bool.and_eq_true] at hok
  obtain ⟨⟨⟨⟨⟨⟨⟨⟨hm, hlenO⟩, hlt⟩, hin⟩, hbound⟩, hnd⟩, hpairs⟩, hcross⟩, htree⟩ := hok
  have hlenO := of_decide_eq_true hlenO
  have hedges : ∀ j o, ops[j]? = some o → ∀ x ∈ bnd o, x.on < j ∧ Region.binds .any x = true := by
    intro j o ho x hx
    have hj : j < ops.size := (Array.getElem?_eq_some_iff.1 ho).1
    constructor
    · have := List.all_eq_true.1 hlt (o, j) (by
        rw [List.mem_zipIdx_iff_getElem?]
        simpa using ho)
      have := List.all_eq_true.1 this x hx
      simpa using this
    · exact (List.mem_filter.1 hx).2
  refine wp_region_any hm ?_
  have key : ∀ (m nt : Nat) (rp rt : List Nat) (listed : Array Bool) (e : Env) (h : Heap) (ι' : List Place) (a : Act) (w' : World), (rp ++ rt).length = m → listed.size = ops.size → (∀ i, i ∈ rp ++ rt ↔ i < ops.size ∧ listed.getD i true = false) → (rp ++ rt).Nodup → pairsOk P ops (masks [] ops.toList) rp = true →
      (∀ x ∈ rp, ∀ y ∈ rt, pairOk P ops (masks [] ops.toList) x y = true) → treeOk P ops (masks [] ops.toList) nt rt = true →
      (∀ j o, ops[j]? = some o → listed.getD j false = true → ∀ x ∈ bnd o, listed.getD x.on false = true) → opsE P ops (rp.filterMap (ops[·]?)) e h [] (fun e h held => tailK P ops (masks [] ops.toList) K nt rt e h held) → EnvR ι' n e a → Rel P B0 ι' h w' → ι <+: ι' → Below B0 w w' →
      wpAny P .any ops Q m listed a w' := by
    intro m
    induction m with
    | zero =>
      intro nt rp rt listed e h ι' a w' hlen hsz hrem _ _ _ _ _ hd hE r hp hB
      have h0 : rp ++ rt = [] := by simpa using hlen
      obtain ⟨rfl, rfl⟩ := List.append_eq_nil_iff.1 h0
      simp only [wpAny]
      refine ⟨?_, hn e h ι' a w' (tailK_nil hd) hE r hp hB⟩
      unfold Region.ready
      rw [List.filter_eq_nil_iff]
      intro i hi
      have hi' : i < ops.size := by simpa using hi
      have : ¬ (listed.getD i true = false) := fun hf => by have := (hrem i).2 ⟨hi', hf⟩; simp at this
      simp only [Bool.not_eq_false] at this
      simp [this]
    | succ m ih =>
      intro nt rp rt listed e h ι' a w' hlen hsz hrem hndp hpr hcr htr hcl hd hE r hp hB
      have hdT : ∀ i b, i < ops.size → listed.getD i b = listed.getD i true := by
        intro i b hi
        have : i < listed.size := by omega
        simp [this]
      simp only [wpAny]
      constructor
      · intro hnil
        exfalso
        have hex : ∀ i, i < ops.size → listed.getD i true = false → False := by
          intro i
          induction i using Nat.strongRecOn with
          | _ i ihi =>
            intro hi hf
            have hmem : i ∈ Region.ready .any ops listed := by
              unfold Region.ready
              rw [List.mem_filter]
              refine ⟨by simpa using hi, ?_⟩
              rw [hf]
              simp only [Bool.not_false, Bool.true_and]
              have ho := Array.getElem?_eq_getElem hi
              rw [ho]
              simp only [Option.map_some, Option.getD_some, Array.all_eq_true']
              intro x hx
              cases hbx : Region.binds .any x with
              | false => rfl
              | true =>
              have hx' : x ∈ bnd ops[i] := List.mem_filter.2 ⟨by simpa using hx, hbx⟩
              obtain ⟨h1, h2⟩ := hedges i _ ho x hx'
              simp only [Bool.not_true, Bool.false_or]
              have hxn : x.on < ops.size := by omega
              rw [hdT _ _ hxn]
              cases hc : listed.getD x.on true with
              | true => rfl
              | false => exact (ihi x.on h1 hxn hc).elim
            rw [hnil] at hmem; simp at hmem
        match hq : rp ++ rt, hlen with
        | i :: _, _ =>
          obtain ⟨h1, h2⟩ := (hrem i).1 (by rw [hq]; simp)
          exact hex i h1 h2
      · intro i hi
        unfold Region.ready at hi
        rw [List.mem_filter] at hi
        obtain ⟨hi1, hi2⟩ := hi
        have hin' : i < ops.size := by simpa using hi1
        simp only [Bool.and_eq_true, Bool.not_eq_true'] at hi2
        obtain ⟨hunl, hdeps⟩ := hi2
        have ho := Array.getElem?_eq_getElem hin'
        generalize hoo : ops[i] = o at ho
        rw [ho] at hdeps
        simp only [Option.map_some, Option.getD_some, Array.all_eq_true'] at hdeps
        have hdeps' : ∀ x ∈ bnd o, listed.getD x.on false = true := by
          intro x hx
          have h2 := (hedges i o ho x hx).2
          have := hdeps x (by simpa using (List.mem_filter.1 hx).1)
          simpa [h2] using this
        have himem : i ∈ rp ++ rt := (hrem i).2 ⟨hin', hunl⟩
        have hoi : opsIn n o := hall o (by simpa using Array.mem_of_getElem? ho)
        -- what a bit of the mask would mean
        have hbitno : ∀ j, j ∈ rp ++ rt → ((masks [] ops.toList).getD i 0).testBit j = true → False := by
          intro j hj hbit
          have hS := masks_closed (ops := ops.toList) (fun k => listed.getD k false = true) (fun j o ho hl => hcl j o (by simpa using ho) hl) ops.toList [] (fun i o h => by simpa using h) (fun d _ k hk => by simp at hk) i o (by simpa using ho) (by simpa using hin') hdeps' (fun j o hj => by simp at hj) j hbit
          have := (hrem j).1 hj
          rw [hdT _ _ this.1] at hS
          rw [this.2] at hS
          simp at hS
        have hapartOf : ∀ j, j ∈ rp ++ rt → pairOk P ops (masks [] ops.toList) j i = true → ∀ x, ops[j]? = some x → effectful P x.op = false ∧ Apart ops x o := by
          intro j hj hpo x hjx
          unfold pairOk at hpo
          simp only [Bool.and_eq_true, Bool.or_eq_true] at hpo
          rcases hpo.2 with hbit | hrest
          · exact (hbitno j hj hbit).elim
          · rw [hjx, ho] at hrest
            simp only [Bool.and_eq_true, Bool.not_eq_true'] at hrest
            exact ⟨hrest.1, apartO_spec hrest.2⟩
        -- what follows, however the operation is found
        have fin : ∀ (nt' : Nat) (rp' rt' : List Nat), (∀ j, j ∈ rp' ++ rt' ↔ j ∈ rp ++ rt ∧ j ≠ i) → (rp' ++ rt').length = m → (rp' ++ rt').Nodup → pairsOk P ops (masks [] ops.toList) rp' = true → (∀ x ∈ rp', ∀ y ∈ rt', pairOk P ops (masks [] ops.toList) x y = true) → treeOk P ops (masks [] ops.toList) nt' rt' = true →
            stepD P ops o e h [] (fun e' h' => opsE P ops (rp'.filterMap (ops[·]?)) e' h' [] fun e h held => tailK P ops (masks [] ops.toList) K nt' rt' e h held) → wpOp P ops Q i (wpAny P .any ops Q m (listed.setIfInBounds i true)) a w' := by
          intro nt' rp' rt' hmem hl' hnd' hpr' hcr' htr' hst
          have hstep := stepD_sound r hall hE hoi hst (next := wpAny P .any ops Q m (listed.setIfInBounds i true)) (Q := Q) (by
            intro e2 h2 ι2 a2 w2 hc hE2 hR2 hp2 hB2
            refine ih nt' rp' rt' (listed.setIfInBounds i true) e2 h2 ι2 a2 w2 hl' (by simpa using hsz) ?_ hnd' hpr' hcr' htr' ?_ hc hE2 hR2 (hp.trans hp2) (hB.trans hB2)
            · intro j
              rw [hmem j]
              by_cases hji : j = i
              · subst hji
                constructor
                · rintro ⟨_, hj⟩; exact (hj rfl).elim
                · rintro ⟨_, hj⟩
                  have : j < listed.size := by omega
                  simp [this] at hj
              · have e1 : (listed.setIfInBounds i true).getD j true = listed.getD j true := by
                  simp [Array.getElem?_setIfInBounds, Ne.symm hji]
                rw [e1, ← hrem j]
                simp [hji]
            · intro j o' ho' hl x hx
              have hxo := (hedges j o' ho' x hx).1
              have hjn : j < ops.size := (Array.getElem?_eq_some_iff.1 ho').1
              by_cases hxi : x.on = i
              · rw [hxi]
                have : i < listed.size := by omega
                simp [this]
              · have e1 : (listed.setIfInBounds i true).getD x.on false = listed.getD x.on false := by
                  simp [Array.getElem?_setIfInBounds, Ne.symm hxi]
                rw [e1]
                by_cases hji : j = i
                · subst hji
                  rw [ho] at ho'
                  simp only [Option.some.injEq] at ho'; subst ho'
                  exact hdeps' x hx
                · have e2 : (listed.setIfInBounds i true).getD j false = listed.getD j false := by
                    simp [Array.getElem?_setIfInBounds, Ne.symm hji]
                  rw [e2] at hl
                  exact hcl j o' ho' hl x hx)
          unfold wpOp
          rw [ho]
          exact hstep
        by_cases hip : i ∈ rp
        · obtain ⟨r1, r2, hr⟩ := List.append_of_mem hip
          subst hr
          obtain ⟨hp1, hpr2⟩ := pairsOk_mem hpr
          have hnd2 : (r1 ++ (r2 ++ rt)).Nodup ∧ i ∉ r1 ++ (r2 ++ rt) := by
            have hh : (r1 ++ i :: (r2 ++ rt)).Nodup := by simpa using hndp
            obtain ⟨n1, n2, n3⟩ := List.nodup_append.1 hh
            obtain ⟨n4, n5⟩ := List.nodup_cons.1 n2
            refine ⟨List.nodup_append.2 ⟨n1, n5, fun x hx y hy => n3 x hx y (by simp [hy])⟩, fun hmm => ?_⟩
            rcases List.mem_append.1 hmm with h1 | h1
            · exact n3 i h1 i (by simp) rfl
            · exact n4 h1
          have hsplit : (r1 ++ i :: r2).filterMap (ops[·]?) = r1.filterMap (ops[·]?) ++ o :: r2.filterMap (ops[·]?) := by
            rw [List.filterMap_append, List.filterMap_cons, ho]
          rw [hsplit] at hd
          have hst := remove (K := fun e h held => tailK P ops (masks [] ops.toList) K nt rt e h held) (fun _ _ _ _ hs ht => tailK_weaken _ _ _ _ _ _ hs ht) _ _ _ _ (by
            intro x hx
            rw [List.mem_filterMap] at hx
            obtain ⟨j, hj, hjx⟩ := hx
            exact hapartOf j (by simp [hj]) (hp1 j hj) x hjx) hd
          refine fin nt (r1 ++ r2) rt ?_ (by simp at hlen ⊢; omega) (by simpa using hnd2.1) hpr2 (fun x hx y hy => hcr x (by simp at hx ⊢; rcases hx with hx | hx <;> simp [hx]) y hy) htr (by rw [List.filterMap_append]; exact hst)
          intro j
          have hni := hnd2.2
          constructor
          · intro hj
            refine ⟨by simp at hj ⊢; rcases hj with hj | hj | hj <;> simp [hj], fun e => hni (by subst e; simpa using hj)⟩
          · rintro ⟨hj, hne⟩
            simp at hj ⊢
            rcases hj with hj | hj | hj | hj
            · simp [hj]
            · exact (hne hj).elim
            · simp [hj]
            · simp [hj]
        · have hit : i ∈ rt := by
            rcases List.mem_append.1 himem with h1 | h1
            · exact (hip h1).elim
            · exact h1
          obtain ⟨n1, n2, n3⟩ := List.nodup_append.1 hndp
          have hmin : readyB (masks [] ops.toList) rt i = true := by
            unfold readyB
            rw [List.all_eq_true]
            intro y hy
            rw [Bool.not_eq_true']
            cases hb : ((masks [] ops.toList).getD i 0).testBit y with
            | false => rfl
            | true => exact (hbitno y (by simp [hy]) hb).elim
          match nt, htr, hd with
          | 0, htr, _ => 
            simp only [treeOk, List.isEmpty_iff] at htr
            rw [htr] at hit; simp at hit
          | nt + 1, htr, hd =>
          have htr2 := List.all_eq_true.1 htr i hit
          rw [hmin] at htr2
          simp only [Bool.not_true, Bool.false_or, Bool.and_eq_true] at htr2
          obtain ⟨hk, htr3⟩ := htr2
          generalize hpl0 : aheadOf P ops (masks [] ops.toList) rt i = pl at hk
          have hrest : restOf P ops (masks [] ops.toList) rt i = (rt.filter (· != i)).filter fun j => !pl.contains j := by unfold restOf; rw [hpl0]
          generalize hrest0 : restOf P ops (masks [] ops.toList) rt i = rest at hk htr3 hrest
          have hd2 : opsE P ops (rp.filterMap (ops[·]?)) e h [] fun e h held => opsE P ops (o :: pl.filterMap (ops[·]?)) e h held fun e h held => tailK P ops (masks [] ops.toList) K nt rest e h held := by
            refine opsE_mono2 (K1 := fun e h held => tailK P ops (masks [] ops.toList) K (nt + 1) rt e h held) _ _ _ _ ?_ hd
            intro e h held hx ht
            obtain ⟨o', ho', c, hc, hh⟩ := ht.2 i hit hmin
            rw [ho] at ho'
            simp only [Option.some.injEq] at ho'; subst ho'
            rw [hpl0, hrest0] at hh
            have hcut : heldCut c held = held := by
              cases c with
              | none => rfl
              | some T =>
                simp only [heldCut, List.filter_eq_self]
                intro x hm
                rcases hx x hm with h1 | ⟨o2, ho2, a2, ha2⟩
                · simp at h1
                rw [List.mem_filterMap] at ho2
                obtain ⟨j, hj, hjx⟩ := ho2
                have hjl := (hrem j).1 (by simp [hj])
                have := List.all_eq_true.1 hc j (by simpa using hjl.1)
                rw [hjx] at this
                simp only [ha2, Bool.or_eq_true] at this
                rcases this with (h1 | h1) | h1
                · exact (n3 j hj j (List.contains_iff_mem.1 h1) rfl).elim
                · exact (hbitno j (by simp [hj]) h1).elim
                · exact h1
            rw [hcut] at hh
            exact hh
          unfold nextOk at hk
          simp only [Bool.and_eq_true] at hk
          obtain ⟨⟨⟨hin2, hnd2⟩, hpl⟩, hcr2⟩ := hk
          have hin3 : ∀ j ∈ pl, j ∈ rt ∧ j ≠ i := by
            intro j hj
            have := List.all_eq_true.1 hin2 j hj
            have := List.contains_iff_mem.1 this
            rw [List.mem_filter] at this
            exact ⟨this.1, by simpa using this.2⟩
          have hrt : ∀ j, j ∈ rest ↔ (j ∈ rt ∧ j ≠ i) ∧ j ∉ pl := by
            intro j
            rw [hrest, List.mem_filter, List.mem_filter]
            simp
          have hndpl := nodupB_spec hnd2
          have hd3 := opsE_append _ _ _ _ hd2
          have hst := remove (K := fun e h held => tailK P ops (masks [] ops.toList) K nt rest e h held) (fun _ _ _ _ hs ht => tailK_weaken _ _ _ _ _ _ hs ht) _ _ _ _ (by
            intro x hx
            rw [List.mem_filterMap] at hx
            obtain ⟨j, hj, hjx⟩ := hx
            exact hapartOf j (by simp [hj]) (hcr j hj i hit) x hjx) hd3
          rw [← List.filterMap_append] at hst
          have hndrest : rest.Nodup := by rw [hrest]; exact (n2.sublist (List.filter_sublist)).sublist (List.filter_sublist)
          have hmem : ∀ j, j ∈ (rp ++ pl) ++ rest ↔ j ∈ rp ++ rt ∧ j ≠ i := by
            intro j
            simp only [List.mem_append]
            constructor
            · rintro ((hj | hj) | hj)
              · exact ⟨.inl hj, fun e => hip (by rw [← e]; exact hj)⟩
              · exact ⟨.inr (hin3 j hj).1, (hin3 j hj).2⟩
              · exact ⟨.inr ((hrt j).1 hj).1.1, ((hrt j).1 hj).1.2⟩
            · rintro ⟨hj | hj, hne⟩
              · exact .inl (.inl hj)
              · by_cases hp : j ∈ pl
                · exact .inl (.inr hp)
                · exact .inr ((hrt j).2 ⟨⟨hj, hne⟩, hp⟩)
          have hnd4 : ((rp ++ pl) ++ rest).Nodup := by
            refine List.nodup_append.2 ⟨List.nodup_append.2 ⟨n1, hndpl, fun x hx y hy => n3 x hx y (hin3 y hy).1⟩, hndrest, fun x hx y hy e => ?_⟩
            subst e
            rcases List.mem_append.1 hx with hx | hx
            · exact n3 x hx x ((hrt x).1 hy).1.1 rfl
            · exact ((hrt x).1 hy).2 hx
          have hlen4 : ((rp ++ pl) ++ rest).length = m := by
            have hperm : ((rp ++ pl) ++ rest).Perm ((rp ++ rt).erase i) := by
              rw [List.perm_ext_iff_of_nodup hnd4 (hndp.erase i)]
              intro j
              rw [hmem j, hndp.mem_erase_iff]
              exact and_comm
            rw [hperm.length_eq, List.length_erase_of_mem (by simp [hit]), hlen]; rfl
          exact fin nt (rp ++ pl) rest hmem hlen4 hnd4 (pairsOk_append hpr hpl fun x hx y hy => hcr x hx y (hin3 y hy).1) (fun x hx y hy => by
            rcases List.mem_append.1 hx with hx | hx
            · exact hcr x hx y ((hrt y).1 hy).1.1
            · exact List.all_eq_true.1 (List.all_eq_true.1 hcr2 x hx) y hy) htr3 hst
  have := key (pre ++ tail).length tail.length pre tail (Array.replicate ops.size false) e h ι a { w with drawn := w.drawn + 1 } rfl (by simp) (by
    intro i
    constructor
    · intro hi
      have := List.all_eq_true.1 hbound i hi
      have hi' : i < ops.size := by simpa using this
      exact ⟨hi', by simp [hi']⟩
    · rintro ⟨hi, _⟩
      have := List.all_eq_true.1 hin i (by simpa using hi)
      simpa using this) (nodupB_spec hnd) hpairs (fun x hx y hy => List.all_eq_true.1 (List.all_eq_true.1 hcross x hx) y hy) htree (by
    intro j o ho hl
    have hj : j < ops.size := (Array.getElem?_eq_some_iff.1 ho).1
    simp [hj] at hl) hd hE (r.drew) List.prefix_rfl ⟨rfl, rfl, rfl, Nat.le_refl _, fun _ _ => rfl⟩
  rw [hlenO] at this
  exact this

end Go.V
end

section
/- The layer V, part 15: the steps as equations, for the walk. -/
namespace Go.V
open Go Go.RowKit

/-! ### continuations, opened only where they are met -/
def SeqK (P : Program) [Laid P] (b : Code) (Q : VX → Env → Heap → Prop) : VX → Env → Heap → Prop := seqV (fun e h => wpV P b e h Q) Q
def ExitK (id : Nat) (Q : VX → Env → Heap → Prop) : VX → Env → Heap → Prop := exitV Q id
def OpsK (P : Program) [Laid P] (all : Array Oper) (os : List Oper) (d : Option Tmp) (e : Env) (K : Env → Heap → Prop) : Value → Heap → Prop := fun v h => opsV P all os (putV e d v) h K
def condK (P : Program) [Laid P] (v : Value) (a b : Code) (e : Env) (h : Heap) (Q : VX → Env → Heap → Prop) : Prop :=
  match v with | .bool true => wpV P a e h Q | .bool false => wpV P b e h Q | _ => False
def guardK (P : Program) [Laid P] (all : Array Oper) (g : Value) (want : Bool) (op : Op) (d : Option Tmp) (os : List Oper) (e : Env) (h : Heap) (K : Env → Heap → Prop) : Prop :=
  match g with
  | .bool b => if b = want then opV P op e h (OpsK P all os d e K) else opsV P all os (putV e d SK) h K
  | .float _ _ => opsV P all os (putV e d SK) h K
  | _ => False
def stK (o : Option Heap) (K : Value → Heap → Prop) : Prop := match o with | some h' => K UN h' | none => False
def binK (P : Program) (o : Option Value) (op : BinOp) (t : TypeId) (xo yo : Operand) (x y : Value) (K : Value → Heap → Prop) (h : Heap) : Prop :=
  match o with | some v => K v h | none => BinC P op t xo yo x y fun v => K v h
def retK (P : Program) (rs : List ResultVar) (Q : Value → Heap → Prop) : VX → Env → Heap → Prop
  | .norm, e, h | .ret, e, h => match (rs.mapM (resultV P e h)).bind fun vs => match vs with
    | [v] => some v
    | vs => if vs.all (fun v => match v with | .tuple vs => vs.size == 0 | _ => true) then some (.tuple vs.toArray) else none with
    | some v => Q v h
    | none => False
  | _, _, _ => False

section
variable (P : Program) [Laid P] (e : Env) (h : Heap) (K : Value → Heap → Prop) (Q : VX → Env → Heap → Prop)

theorem s_seq (a b : Code) : wpV P (.seq a b) e h Q = wpV P a e h (SeqK P b Q) := rfl
theorem s_seq_norm (b : Code) : SeqK P b Q .norm e h = wpV P b e h Q := rfl
theorem s_seq_exit (b : Code) (i : Nat) : SeqK P b Q (.exit i) e h = Q (.exit i) e h := rfl
theorem s_seq_ret (b : Code) : SeqK P b Q .ret e h = Q .ret e h := rfl
theorem s_skip : wpV P .skip e h Q = Q .norm e h := rfl
theorem s_exit (i : Nat) : wpV P (.exit i) e h Q = Q (.exit i) e h := rfl
theorem s_ret : wpV P .ret e h Q = Q .ret e h := rfl
theorem s_block (i : Nat) (b : Code) : wpV P (.block i b) e h Q = wpV P b e h (ExitK i Q) := rfl
theorem s_block_norm (i : Nat) : ExitK i Q .norm e h = Q .norm e h := rfl
theorem s_block_ret (i : Nat) : ExitK i Q .ret e h = Q .ret e h := rfl
theorem s_block_exit (i j : Nat) : ExitK i Q (.exit j) e h = if j = i then Q .norm e h else Q (.exit j) e h := rfl
theorem s_cond (c : Operand) (a b : Code) : wpV P (.cond c a b) e h Q = condK P (evO e c) a b e h Q := rfl
theorem s_cond_true (a b : Code) : condK P (.bool true) a b e h Q = wpV P a e h Q := rfl
theorem s_cond_false (a b : Code) : condK P (.bool false) a b e h Q = wpV P b e h Q := rfl
theorem s_region (id : Nat) (l : List Oper) : wpV P (.region id l.toArray false) e h Q = opsV P l.toArray l e h (Q .norm) := rfl
theorem s_ops_nil (all : Array Oper) (K : Env → Heap → Prop) : opsV P all [] e h K = K e h := rfl
theorem s_ops (all : Array Oper) (K : Env → Heap → Prop) (d : Option Tmp) (op : Op) (t : TypeId) (pos : String) (after : Array Edge) (os : List Oper) :
    opsV P all (⟨d, op, t, pos, after, none⟩ :: os) e h K = opV P op e h (OpsK P all os d e K) := rfl
theorem s_ops_guard (l : List Oper) (K : Env → Heap → Prop) (d : Option Tmp) (op : Op) (t : TypeId) (pos : String) (after : Array Edge) (os : List Oper) (j : Nat) (want : Bool) :
    opsV P l.toArray (⟨d, op, t, pos, after, some (j, want)⟩ :: os) e h K = match (l[j]?).bind (·.dst) with | some t => guardK P l.toArray (e t) want op d os e h K | none => False := by
  simp only [opsV, guardV, List.getElem?_toArray]
  cases hj : (l[j]?).bind (·.dst) with
  | none => rfl
  | some t =>
    simp only []
    unfold guardK
    cases e t with
    | bool b => cases b <;> cases want <;> rfl
    | float k n => rfl
    | _ => rfl
theorem s_guard_tt (all : Array Oper) (op : Op) (d : Option Tmp) (os : List Oper) (K : Env → Heap → Prop) : guardK P all (.bool true) true op d os e h K = opV P op e h (OpsK P all os d e K) := rfl
theorem s_guard_ff (all : Array Oper) (op : Op) (d : Option Tmp) (os : List Oper) (K : Env → Heap → Prop) : guardK P all (.bool false) false op d os e h K = opV P op e h (OpsK P all os d e K) := rfl
theorem s_guard_tf (all : Array Oper) (op : Op) (d : Option Tmp) (os : List Oper) (K : Env → Heap → Prop) : guardK P all (.bool true) false op d os e h K = opsV P all os (putV e d SK) h K := rfl
theorem s_guard_ft (all : Array Oper) (op : Op) (d : Option Tmp) (os : List Oper) (K : Env → Heap → Prop) : guardK P all (.bool false) true op d os e h K = opsV P all os (putV e d SK) h K := rfl
theorem s_guard_skip (all : Array Oper) (want : Bool) (op : Op) (d : Option Tmp) (os : List Oper) (K : Env → Heap → Prop) :
    guardK P all SK want op d os e h K = opsV P all os (putV e d SK) h K := rfl
theorem s_opsK (all : Array Oper) (os : List Oper) (d : Option Tmp) (K : Env → Heap → Prop) (v : Value) : OpsK P all os d e K v h = opsV P all os (putV e d v) h K := rfl
theorem s_put (t : Nat) (v : Value) : putV e (some t) v = upd e t v := rfl
theorem s_put_none (v : Value) : putV e none v = e := rfl
theorem s_upd (t s : Nat) (v : Value) : upd e t v s = if s = t then v else e s := rfl
theorem s_tmp (t : Nat) : evO e (.tmp t) = e t := rfl
theorem s_func (f : FuncId) : evO e (.func f) = .func (.func f) #[] #[] := rfl
theorem s_int (k : IntKind) (n : Int) : evO e (.const (.int k n)) = .int k n := rfl
theorem s_bool (b : Bool) : evO e (.const (.bool b)) = .bool b := rfl
theorem s_string (s : ByteArray) : evO e (.const (.string s)) = .string s := rfl
theorem s_nilp : evO e (.const (.pointer none)) = .pointer none := rfl
theorem s_nils : evO e (.const (.slice none 0 0)) = .slice none 0 0 := rfl
theorem s_nilI : evO e (.const .nilIface) = .nilIface := rfl
theorem s_nilF : evO e (.const .nilFunc) = .nilFunc := rfl
theorem s_move (x : Operand) : opV P (.move x) e h K = K (evO e x) h := rfl
theorem s_assign (x : Operand) : opV P (.assign x) e h K = K (evO e x) h := rfl
theorem s_load (t : TypeId) (a : Operand) : opV P (.load t a) e h K = optK (loadV P t (evO e a) h) h K := rfl
theorem s_store (t : TypeId) (a x : Operand) : opV P (.store t a x) e h K = stK (storeV P t (evO e a) (evO e x) h) K := rfl
theorem s_bin (op : BinOp) (t t2 : TypeId) (x y : Operand) : opV P (.binOp op t x y t2) e h K = binK P (binV op (((tk P t).map (·.kind)).getD 0) (evO e x) (evO e y)) op t x y (evO e x) (evO e y) K h := by
  simp only [opV, binK]
  all_goals (cases binV op (((tk P t).map (·.kind)).getD 0) (evO e x) (evO e y) <;> rfl)
theorem s_un (op : UnOp) (t : TypeId) (x : Operand) : opV P (.unOp op t x) e h K = optK (unV op (evO e x)) h K := rfl
theorem s_convert (s t : TypeId) (x : Operand) : opV P (.convert s t x) e h K = optH (convV P s t (evO e x) h) K := rfl
theorem s_field (t : TypeId) (x : Operand) (f : Nat) : opV P (.field t x f) e h K = optK (fieldV P t (evO e x) f) h K := rfl
theorem s_fieldAddr (t : TypeId) (x : Operand) (f : Nat) : opV P (.fieldAddr t x f) e h K = optK (fieldAddrV P t (evO e x) f) h K := rfl
theorem s_index (t : TypeId) (x i : Operand) : opV P (.index t x i) e h K = optK (indexV P t (evO e x) (evO e i)) h K := rfl
theorem s_indexAddr (t : TypeId) (x i : Operand) : opV P (.indexAddr t x i) e h K = optK (indexAddrV P t (evO e x) (evO e i)) h K := rfl
theorem s_extract (x : Operand) (i : Nat) : opV P (.extract x i) e h K = optK (extractV (evO e x) i) h K := rfl
theorem s_slice (t : TypeId) (x : Operand) (lo hi : Option Operand) : opV P (.slice t x lo hi none) e h K = optK (sliceV P t e (evO e x) lo hi) h K := rfl
theorem s_nilCheck (x : Operand) : opV P (.nilCheck x) e h K = optK (nilCheckV (evO e x)) h K := rfl
theorem s_alloc (t : TypeId) : opV P (.alloc t) e h K = match tk P t with | some k => K (.pointer (some ⟨h.length, 0, none⟩)) (h ++ [some ⟨k.zero, t, false, true⟩]) | none => False := rfl
theorem s_box (t : TypeId) (x : Operand) : opV P (.box t x) e h K = match tk P t, cellsV (evO e x) with | some k, some cs => cs.length = k.size ∧ K (.pointer (some ⟨h.length, 0, none⟩)) (h ++ [some ⟨cs, t, false, true⟩]) | _, _ => False := rfl
theorem s_build (t : TypeId) (l : List (Nat × Operand)) : opV P (.build t l.toArray) e h K = optK (buildV P t (l.map fun (i, x) => (i, evO e x))) h K := rfl
theorem s_buildSlice (t n : TypeId) (l : List (Nat × Operand)) : opV P (.buildSlice t n l.toArray) e h K = optH (buildSliceV P t n (l.map fun (i, x) => (i, evO e x)) h) K := rfl
theorem s_makeSlice (t : TypeId) (l c : Operand) : opV P (.makeSlice t l c) e h K = optH (makeSliceV P t (evO e l) (evO e c) h) K := rfl
theorem s_makeFunc (fn : Fn) (a b : List Operand) : opV P (.makeFunc fn a.toArray b.toArray) e h K = ((a.all (fun x => capOk (evO e x)) && b.all fun x => capOk (evO e x)) = true ∧ K (.func fn (a.map (evO e)).toArray (b.map (evO e)).toArray) h) := rfl
theorem s_builtin (b : Builtin) (l : List Operand) (ts : Array TypeId) : opV P (.call ⟨.builtin b, l.toArray, ts⟩) e h K = builtinV P b ts (l.map (evO e)) h K := rfl
theorem s_call (f : Operand) (l : List Operand) (ts : Array TypeId) : opV P (.call ⟨.value f, l.toArray, ts⟩) e h K = callDyn P (evO e f) (l.map (evO e)) h K := rfl
theorem s_callDyn (f : FuncId) (a b : List Value) (args : List Value) : callDyn P (.func (.func f) a.toArray b.toArray) args h K = CallV P f (a ++ args ++ b) h K := by simp [callDyn]
theorem s_callDyn0 (f : FuncId) (args : List Value) : callDyn P (.func (.func f) #[] #[]) args h K = CallV P f args h K := by simp [callDyn]
theorem s_pick (c a b : Operand) : opV P (.pick c a b) e h K = match evO e c with | .bool true => K (evO e a) h | .bool false => K (evO e b) h | _ => False := rfl
theorem s_stK (h' : Heap) : stK (some h') K = K UN h' := rfl
theorem s_optK (v : Value) : optK (some v) h K = K v h := rfl
theorem s_optH (v : Value) : optH (some (v, h)) K = K v h := rfl
theorem s_binK (v : Value) (op : BinOp) (t : TypeId) (xo yo : Operand) (x y : Value) : binK P (some v) op t xo yo x y K h = K v h := rfl
theorem s_len (t : TypeId) (A : Option Addr) (n c : Nat) : builtinV P .len #[t] [.slice A n c] h K = ((tElem P t).isSome = true ∧ K (.int .i64 n) h) := rfl
theorem s_len_str (t : TypeId) (s : ByteArray) : builtinV P .len #[t] [.string s] h K = ((tk P t).map (·.kind) = some 3 ∧ K (.int .i64 s.size) h) := rfl
theorem s_append (t t2 : TypeId) (s x : Value) : builtinV P .append #[t, t2] [s, x] h K = (((tk P t2).map (·.kind) = some 5 ∨ (tk P t2).map (·.kind) = some 3) ∧ optH (appendV P t s x h) K) := rfl
theorem s_copy (t t2 : TypeId) (d s : Value) : builtinV P .copy #[t, t2] [d, s] h K = optH (copyV P t d s h) K := rfl
end

section
variable (P : Program)
theorem b_add (n : Nat) (k : IntKind) (a b : Int) : binV .add n (.int k a) (.int k b) = some (.int k (k.wrap (a + b))) := by simp [binV, intV]
theorem b_sub (n : Nat) (k : IntKind) (a b : Int) : binV .sub n (.int k a) (.int k b) = some (.int k (k.wrap (a - b))) := by simp [binV, intV]
theorem b_mul (n : Nat) (k : IntKind) (a b : Int) : binV .mul n (.int k a) (.int k b) = some (.int k (k.wrap (a * b))) := by simp [binV, intV]
theorem b_quo (n : Nat) (k : IntKind) (a b : Int) : binV .quo n (.int k a) (.int k b) = if b = 0 then none else some (.int k (k.wrap (a.tdiv b))) := by simp [binV, intV]
theorem b_rem (n : Nat) (k : IntKind) (a b : Int) : binV .rem n (.int k a) (.int k b) = if b = 0 then none else some (.int k (a.tmod b)) := by simp [binV, intV]
theorem b_eql (n : Nat) (k : IntKind) (a b : Int) : binV .eql n (.int k a) (.int k b) = some (.bool (decide (a = b))) := by simp [binV, intV]
theorem b_neq (n : Nat) (k : IntKind) (a b : Int) : binV .neq n (.int k a) (.int k b) = some (.bool (!decide (a = b))) := by simp [binV, intV]
theorem b_lss (n : Nat) (k : IntKind) (a b : Int) : binV .lss n (.int k a) (.int k b) = some (.bool (decide (a < b))) := by simp [binV, intV]
theorem b_leq (n : Nat) (k : IntKind) (a b : Int) : binV .leq n (.int k a) (.int k b) = some (.bool (decide (a ≤ b))) := by simp [binV, intV]
theorem b_gtr (n : Nat) (k : IntKind) (a b : Int) : binV .gtr n (.int k a) (.int k b) = some (.bool (decide (b < a))) := by simp [binV, intV]
theorem b_geq (n : Nat) (k : IntKind) (a b : Int) : binV .geq n (.int k a) (.int k b) = some (.bool (decide (b ≤ a))) := by simp [binV, intV]
theorem b_shl (n : Nat) (k k' : IntKind) (a b : Int) : binV .shl n (.int k a) (.int k' b) = if b < 0 then none else some (.int k (k.wrap (a * 2 ^ min b.toNat k.bits))) := by simp [binV, shiftV]
theorem b_shr (n : Nat) (k k' : IntKind) (a b : Int) : binV .shr n (.int k a) (.int k' b) = if b < 0 then none else some (.int k (a.fdiv (2 ^ min b.toNat k.bits))) := by simp [binV, shiftV]
theorem b_str (op : BinOp) (n : Nat) (a b : ByteArray) : binV op n (.string a) (.string b) = strV op a b := rfl
theorem b_eqb (a b : Bool) : binV .eql 1 (.bool a) (.bool b) = some (.bool (a == b)) := rfl
theorem b_neb (a b : Bool) : binV .neq 1 (.bool a) (.bool b) = some (.bool !(a == b)) := rfl
theorem b_eq_nil (b : Option Addr) (n c : Nat) : binV .eql 5 (.slice b n c) (.slice none 0 0) = some (.bool b.isNone) := by cases b <;> rfl
theorem b_ne_nil (b : Option Addr) (n c : Nat) : binV .neq 5 (.slice b n c) (.slice none 0 0) = some (.bool !b.isNone) := by cases b <;> rfl
theorem b_eq_nilp (b : Option Addr) : binV .eql 4 (.pointer b) (.pointer none) = some (.bool b.isNone) := by cases b <;> rfl
theorem b_ne_nilp (b : Option Addr) : binV .neq 4 (.pointer b) (.pointer none) = some (.bool !b.isNone) := by cases b <;> rfl
theorem b_ne_err (t : TypeId) (v : Value) : binV .neq 7 (.iface t v) .nilIface = some (.bool true) := rfl
theorem b_eq_err (t : TypeId) (v : Value) : binV .eql 7 (.iface t v) .nilIface = some (.bool false) := rfl
theorem u_neg (k : IntKind) (n : Int) : unV .neg (.int k n) = some (.int k (k.wrap (0 - n))) := rfl
theorem u_not (b : Bool) : unV .not (.bool b) = some (.bool !b) := rfl
end

theorem wrap64_in {x : Int} (h1 : -9223372036854775808 ≤ x) (h2 : x ≤ 9223372036854775807) : IntKind.wrap .i64 x = x := by
  simp [IntKind.wrap, IntKind.bits, IntKind.signed]; omega

/-- What a round of a loop owes. -/
def LoopK (I : Nat → Env → Heap → Prop) (n : Nat) (Q : VX → Env → Heap → Prop) : VX → Env → Heap → Prop := fun x e h => match x with | .norm => ∃ m, m < n ∧ I m e h | x => Q x e h
theorem s_loop_norm (I : Nat → Env → Heap → Prop) (n : Nat) (Q : VX → Env → Heap → Prop) (e : Env) (h : Heap) : LoopK I n Q .norm e h = ∃ m, m < n ∧ I m e h := rfl
theorem s_loop_exit (I : Nat → Env → Heap → Prop) (n i : Nat) (Q : VX → Env → Heap → Prop) (e : Env) (h : Heap) : LoopK I n Q (.exit i) e h = Q (.exit i) e h := rfl
theorem s_loop_ret (I : Nat → Env → Heap → Prop) (n : Nat) (Q : VX → Env → Heap → Prop) (e : Env) (h : Heap) : LoopK I n Q .ret e h = Q .ret e h := rfl

/-! ### what a function hands back -/
def plainV : Value → Bool
  | .tuple vs => vs.size == 0
  | _ => true
theorem r_one (P : Program) (t : Nat) (Q : Value → Heap → Prop) (e : Env) (h : Heap) : retK P [.tmp t] Q .ret e h = Q (e t) h := by simp [retK, resultV]
theorem r_two (P : Program) (t s : Nat) (Q : Value → Heap → Prop) (e : Env) (h : Heap) : retK P [.tmp t, .tmp s] Q .ret e h = if plainV (e t) && plainV (e s) then Q (.tuple #[e t, e s]) h else False := by
  simp only [retK, List.mapM_cons, List.mapM_nil, resultV, Option.pure_def, Option.bind_eq_bind, Option.bind_some, List.all_cons, List.all_nil, Bool.and_true]
  have : ∀ v : Value, (match v with | .tuple vs => vs.size == 0 | _ => true) = plainV v := fun v => by cases v <;> rfl
  simp only [this]
  by_cases hc : (plainV (e t) && plainV (e s)) = true
  · rw [if_pos hc, if_pos hc]
  · rw [if_neg hc, if_neg hc]
theorem r_three (P : Program) (t s u : Nat) (Q : Value → Heap → Prop) (e : Env) (h : Heap) : retK P [.tmp t, .tmp s, .tmp u] Q .ret e h = if plainV (e t) && (plainV (e s) && plainV (e u)) then Q (.tuple #[e t, e s, e u]) h else False := by
  simp only [retK, List.mapM_cons, List.mapM_nil, resultV, Option.pure_def, Option.bind_eq_bind, Option.bind_some, List.all_cons, List.all_nil, Bool.and_true]
  have : ∀ v : Value, (match v with | .tuple vs => vs.size == 0 | _ => true) = plainV v := fun v => by cases v <;> rfl
  simp only [this]
  by_cases hc : (plainV (e t) && (plainV (e s) && plainV (e u))) = true
  · rw [if_pos hc, if_pos hc]
  · rw [if_neg hc, if_neg hc]
theorem r_four (P : Program) (t s u x : Nat) (Q : Value → Heap → Prop) (e : Env) (h : Heap) : retK P [.tmp t, .tmp s, .tmp u, .tmp x] Q .ret e h = if plainV (e t) && (plainV (e s) && (plainV (e u) && plainV (e x))) then Q (.tuple #[e t, e s, e u, e x]) h else False := by
  simp only [retK, List.mapM_cons, List.mapM_nil, resultV, Option.pure_def, Option.bind_eq_bind, Option.bind_some, List.all_cons, List.all_nil, Bool.and_true]
  have : ∀ v : Value, (match v with | .tuple vs => vs.size == 0 | _ => true) = plainV v := fun v => by cases v <;> rfl
  simp only [this]
  by_cases hc : (plainV (e t) && (plainV (e s) && (plainV (e u) && plainV (e x)))) = true
  · rw [if_pos hc, if_pos hc]
  · rw [if_neg hc, if_neg hc]
theorem r_none (P : Program) (Q : Value → Heap → Prop) (e : Env) (h : Heap) : retK P [] Q .ret e h = Q UN h := by simp [retK]
theorem r_none' (P : Program) (Q : Value → Heap → Prop) (e : Env) (h : Heap) : retK P [] Q .norm e h = Q UN h := by simp [retK]
theorem r_cell (P : Program) (t a : Nat) (Q : Value → Heap → Prop) (e : Env) (h : Heap) : retK P [.cell a t] Q .ret e h = optK (loadV P t (e a) h) h Q := by
  simp only [retK, List.mapM_cons, List.mapM_nil, resultV, Option.pure_def, Option.bind_eq_bind]
  cases loadV P t (e a) h <;> simp [optK]
/-! ### results out of cells -/
def retL (Q : Value → Heap → Prop) (h : Heap) : List (Option Value) → List Value → Prop
  | [], vs => if vs.all plainV then Q (.tuple vs.toArray) h else False
  | none :: _, _ => False
  | some v :: l, vs => retL Q h l (vs ++ [v])
theorem r2_gen (P : Program) (r1 r2 : ResultVar) (Q : Value → Heap → Prop) (e : Env) (h : Heap) : retK P [r1, r2] Q .ret e h = retL Q h [resultV P e h r1, resultV P e h r2] [] := by
  simp only [retK, List.mapM_cons, List.mapM_nil, Option.pure_def, Option.bind_eq_bind]
  have hp : ∀ v : Value, (match v with | .tuple vs => vs.size == 0 | _ => true) = plainV v := fun v => by cases v <;> rfl
  cases resultV P e h r1 with
  | none => rfl
  | some a =>
    cases resultV P e h r2 with
    | none => rfl
    | some b =>
      simp only [Option.bind_some, retL, List.nil_append, List.cons_append, List.all_cons, List.all_nil, Bool.and_true, hp]
      by_cases hc : (plainV a && plainV b) = true
      · rw [if_pos hc, if_pos hc]
      · rw [if_neg hc, if_neg hc]
theorem r3_gen (P : Program) (r1 r2 r3 : ResultVar) (Q : Value → Heap → Prop) (e : Env) (h : Heap) : retK P [r1, r2, r3] Q .ret e h = retL Q h [resultV P e h r1, resultV P e h r2, resultV P e h r3] [] := by
  simp only [retK, List.mapM_cons, List.mapM_nil, Option.pure_def, Option.bind_eq_bind]
  have hp : ∀ v : Value, (match v with | .tuple vs => vs.size == 0 | _ => true) = plainV v := fun v => by cases v <;> rfl
  cases resultV P e h r1 with
  | none => rfl
  | some a =>
    cases resultV P e h r2 with
    | none => rfl
    | some b =>
      cases resultV P e h r3 with
      | none => rfl
      | some c =>
        simp only [Option.bind_some, retL, List.nil_append, List.cons_append, List.all_cons, List.all_nil, Bool.and_true, hp]
        by_cases hc : (plainV a && (plainV b && plainV c)) = true
        · rw [if_pos hc, if_pos hc]
        · rw [if_neg hc, if_neg hc]
theorem p_int (k : IntKind) (n : Int) : plainV (.int k n) = true := rfl
theorem p_bool (b : Bool) : plainV (.bool b) = true := rfl
theorem p_string (b : ByteArray) : plainV (.string b) = true := rfl
theorem p_slice (a : Option Addr) (n c : Nat) : plainV (.slice a n c) = true := rfl
theorem p_agg (a : Array Value) : plainV (.agg a) = true := rfl
theorem p_pointer (a : Option Addr) : plainV (.pointer a) = true := rfl
theorem p_iface (t : TypeId) (v : Value) : plainV (.iface t v) = true := rfl
theorem p_nilIface : plainV .nilIface = true := rfl

/-- A loop, by a measure. -/
theorem loop_rule {P : Program} [Laid P] {b : Code} {Q : VX → Env → Heap → Prop} (I : Nat → Env → Heap → Prop) (round : ∀ n e h, I n e h → wpV P b e h (LoopK I n Q)) :
    ∀ n e h, I n e h → wpV P (.loop b) e h Q := by
  have mono : ∀ (c : Code) (e : Env) (h : Heap) (Q Q' : VX → Env → Heap → Prop), (∀ x e h, Q x e h → Q' x e h) → wpV P c e h Q → wpV P c e h Q' := by
    intro c
    induction c with
    | skip => intro e h Q Q' hq hw; exact hq _ _ _ hw
    | region id ops draw =>
      intro e h Q Q' hq hw
      cases draw with
      | false =>
        have key : ∀ (os : List Oper) (e : Env) (h : Heap), opsV P ops os e h (Q .norm) → opsV P ops os e h (Q' .norm) := by
          intro os
          induction os with
          | nil => intro e h hw; exact hq _ _ _ hw
          | cons o os ih =>
            intro e h hw
            unfold opsV at hw ⊢
            split at hw
            · exact opV_mono (fun v h' hv => ih _ _ hv) hw
            · exact ih _ _ hw
            · exact hw.elim
        exact key _ _ _ hw
      | true =>
        rcases hw with ⟨order, hok, hw⟩ | ⟨pre, tail, hok, hw⟩
        · exact .inl ⟨order, hok, opsE_mono (fun e h _ hk => hq .norm e h hk) _ _ _ _ hw⟩
        · exact .inr ⟨pre, tail, hok, opsE_mono (fun e h held ht => tailK_mono (fun e h hk => hq .norm e h hk) _ _ _ _ _ ht) _ _ _ _ hw⟩
    | seq a b iha ihb =>
      intro e h Q Q' hq hw
      refine iha _ _ _ _ (fun x e h hx => ?_) hw
      cases x with
      | norm => exact ihb _ _ _ _ hq hx
      | exit i => exact hq _ _ _ hx
      | ret => exact hq _ _ _ hx
    | cond c a b iha ihb =>
      intro e h Q Q' hq hw
      simp only [wpV] at hw ⊢
      split at hw
      · exact iha _ _ _ _ hq hw
      · exact ihb _ _ _ _ hq hw
      · exact hw.elim
    | block id b ih =>
      intro e h Q Q' hq hw
      refine ih _ _ _ _ (fun x e h hx => ?_) hw
      cases x with
      | norm => exact hq _ _ _ hx
      | exit i =>
        simp only [exitV] at hx ⊢
        split at hx
        · rename_i hi; rw [if_pos hi]; exact hq _ _ _ hx
        · rename_i hi; rw [if_neg hi]; exact hq _ _ _ hx
      | ret => exact hq _ _ _ hx
    | loop b ih =>
      intro e h Q Q' hq hw
      obtain ⟨n, hn⟩ := hw
      refine ⟨n, ?_⟩
      have key : ∀ n e h, iterV (wpV P b) Q n e h → iterV (wpV P b) Q' n e h := by
        intro n
        induction n with
        | zero => intro e h hh; exact hh
        | succ n ihn =>
          intro e h hh
          refine ih _ _ _ _ (fun x e h hx => ?_) hh
          cases x with
          | norm => exact ihn _ _ hx
          | exit i => exact hq _ _ _ hx
          | ret => exact hq _ _ _ hx
      exact key n e h hn
    | exit id => intro e h Q Q' hq hw; exact hq _ _ _ hw
    | ret => intro e h Q Q' hq hw; exact hq _ _ _ hw
    | _ => intro e h Q Q' hq hw; exact hw.elim
  have iter_mono : ∀ (n m : Nat) (e : Env) (h : Heap), n ≤ m → iterV (wpV P b) Q n e h → iterV (wpV P b) Q m e h := by
    intro n
    induction n with
    | zero => intro m e h _ hh; exact hh.elim
    | succ n ih =>
      intro m e h hle hh
      cases m with
      | zero => omega
      | succ m =>
        refine mono _ _ _ _ _ (fun x e h hx => ?_) hh
        cases x with
        | norm => exact ih m e h (by omega) hx
        | exit i => exact hx
        | ret => exact hx
  have key : ∀ n e h, I n e h → iterV (wpV P b) Q (n + 1) e h := by
    intro n
    induction n using Nat.strongRecOn with
    | _ n ih =>
      intro e h hI
      refine mono _ _ _ _ _ (fun x e h hx => ?_) (round n e h hI)
      cases x with
      | norm =>
        obtain ⟨m, hm, hI'⟩ := hx
        exact iter_mono (m + 1) n e h (by omega) (ih m hm e h hI')
      | exit i => exact hx
      | ret => exact hx
  intro n e h hI
  exact ⟨n + 1, key n e h hI⟩

theorem CallsV.start {P : Program} [Laid P] {f : FuncId} {fn : Func} {c : Code} {rs : List ResultVar} {args : List Value} {h : Heap} {Q : Value → Heap → Prop} (hf : P.funcs[f]? = some fn) (hb : fn.body = some c) (hr : fn.results.toList = rs) (hok : fnOk fn c = true) (hlen : args.length ≤ fn.ntmps)
    (hv : wpV P c (startEnv args) h (retK P rs Q)) : CallsV P f args h Q := by
  subst hr
  exact CallsV.intro (drawSound P) hf hb hok hlen hv

theorem pick_t (A B : Prop) : (match Value.bool true with | .bool true => A | .bool false => B | _ => False) = A := rfl
theorem pick_f (A B : Prop) : (match Value.bool false with | .bool true => A | .bool false => B | _ => False) = B := rfl

/-- All steps, in one word for simp. -/
def VS := And.intro @s_seq (And.intro @s_seq_norm (And.intro @s_seq_exit (And.intro @s_seq_ret (And.intro @s_skip (And.intro @s_exit (And.intro @s_ret (And.intro @s_block (And.intro @s_block_norm (And.intro @s_block_ret (And.intro @s_block_exit (And.intro @s_cond (And.intro @s_cond_true (And.intro @s_cond_false (And.intro @s_region (And.intro @s_ops_nil (And.intro @s_ops (And.intro @s_ops_guard (And.intro @s_guard_tt (And.intro @s_guard_ff (And.intro @s_guard_tf (And.intro @s_guard_ft (And.intro @s_guard_skip (And.intro @s_opsK (And.intro @s_put (And.intro @s_put_none (And.intro @s_upd (And.intro @s_tmp (And.intro @s_func (And.intro @s_int (And.intro @s_bool (And.intro @s_string (And.intro @s_nilp (And.intro @s_nils (And.intro @s_nilI (And.intro @s_nilF (And.intro @s_move (And.intro @s_assign (And.intro @s_load (And.intro @s_store (And.intro @s_bin (And.intro @s_un (And.intro @s_convert (And.intro @s_field (And.intro @s_fieldAddr (And.intro @s_index (And.intro @s_indexAddr (And.intro @s_extract (And.intro @s_slice (And.intro @s_nilCheck (And.intro @s_alloc (And.intro @s_box (And.intro @s_build (And.intro @s_buildSlice (And.intro @s_makeSlice (And.intro @s_makeFunc (And.intro @s_builtin (And.intro @s_call (And.intro @s_callDyn (And.intro @s_callDyn0 (And.intro @s_pick (And.intro @pick_t (And.intro @pick_f (And.intro @s_stK (And.intro @s_optK (And.intro @s_optH (And.intro @s_binK (And.intro @s_len (And.intro @s_len_str (And.intro @s_append (And.intro @s_copy (And.intro @b_add (And.intro @b_sub (And.intro @b_mul (And.intro @b_quo (And.intro @b_rem (And.intro @b_eql (And.intro @b_neq (And.intro @b_lss (And.intro @b_leq (And.intro @b_gtr (And.intro @b_geq (And.intro @b_shl (And.intro @b_shr (And.intro @b_str (And.intro @b_eqb (And.intro @b_neb (And.intro @b_eq_nil (And.intro @b_ne_nil (And.intro @b_eq_nilp (And.intro @b_ne_nilp (And.intro @b_ne_err (And.intro @b_eq_err (And.intro @u_neg (And.intro @u_not (And.intro @s_loop_norm (And.intro @s_loop_exit (And.intro @s_loop_ret (And.intro @r_one (And.intro @r_two (And.intro @r_three (And.intro @r_four (And.intro @r_none (And.intro @r_none' (And.intro @r_cell (And.intro @p_int (And.intro @p_bool (And.intro @p_string (And.intro @p_slice (And.intro @p_agg (And.intro @p_pointer (And.intro @p_iface (@p_nilIface))))))))))))))))))))))))))))))))))))))))))))))))))))))))))))))))))))))))))))))))))))))))))))))))))))))))))))))))

end Go.V
end

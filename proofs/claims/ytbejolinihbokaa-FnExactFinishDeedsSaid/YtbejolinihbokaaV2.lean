/- What an operation that writes nothing comes to, on data; and that the model comes to the same. Over any program. -/
import Derived.Test.YtbejolinihbokaaV1
import Derived.Laws.Cells
import Derived.Laws.Sem
import Derived.Laws.Entries
import Derived.Laws.Slices
namespace Go.VL
open Go.RowKit

/-- The shape of a type, as far as operations ask for it. -/
inductive LK where
  | other
  | bool
  | string
  | int (k : IntKind)
  | float (k : FloatKind)
  | slice (e : TypeId)
  | array (n : Nat) (e : TypeId)
  | struct (fs : List (TypeId × Nat))

structure Lay where
  kind : LK
  size : Nat
  bytes : Nat
  zero : List Value

def LK.agg : LK → Bool
  | .array _ _ => true
  | .struct _ => true
  | _ => false

def LK.ok (P : Program) (t : TypeId) : LK → Prop
  | .other => ∃ d, P.underlying t = some d ∧ (match d with | .struct _ | .array _ _ => true | _ => false) = false
  | .bool => P.underlying t = some .bool
  | .string => P.underlying t = some .string
  | .int k => P.underlying t = some (.int k)
  | .float k => P.underlying t = some (.float k)
  | .slice e => P.underlying t = some (.slice e)
  | .array n e => P.underlying t = some (.array n e)
  | .struct fs => ∃ fields : Array Field, P.underlying t = some (.struct fields) ∧ fields.toList.map (fun f => (f.type, f.offset)) = fs ∧ (fields.toList.all fun f => P.cellsOf f.type != 0) = true

structure LayOk (P : Program) (t : TypeId) (L : Lay) : Prop where
  kind : L.kind.ok P t
  plain : (L.zero.all plain) = true
  info : ∃ i z, P.info? t = some i ∧ i.size = L.size ∧ i.bytes = L.bytes ∧ i.zero = some z ∧ z.cells.toList = L.zero ∧ z.cells.size = L.size

/-- What is known of a program. -/
structure Cx where
  P : Program
  lay : TypeId → Option Lay
  ok : ∀ t L, lay t = some L → LayOk P t L
  G : Glob
  mixed : P.follows .mixedOrders = true

def cOf : Value → C
  | .float k b => .f k (if isNaN k b then none else some b)
  | x => .v x
def vOf : Value → V
  | .agg cs => if cs.toList.all plain then .agg (cs.toList.map cOf) else .any
  | .tuple _ => .any
  | x => .c (cOf x)

/-- What the slots hold. -/
abbrev Sl := Nat → V

def rho (G : Glob) (sl : Sl) : Operand → V
  | .tmp t => sl t
  | .const v => vOf v
  | .global g => match G.lookup g with
    | some cs => .c (.vw false (cs.map .v) 0)
    | none => .any
  | .func f => .c (.fn f [])

def V.cells : V → Option (List C)
  | .c x => some [x]
  | .agg cs => some cs
  | _ => none

/-- A value of some cells, of a type that is a struct or an array, or is not. -/
def mkV (agg : Bool) (cs : List C) : Option V :=
  if agg then some (.agg cs) else match cs with
    | [x] => some (.c x)
    | _ => none

def sub (cs : List C) (off n : Nat) : List C := (cs.drop off).take n

def fop (op : BinOp) (k : FloatKind) (x y : Option Nat) : Option Nat :=
  x.bind fun a => y.bind fun b => match op with
    | .add => k.format.add a b
    | .sub => k.format.sub a b
    | .mul => k.format.mul a b
    | .quo => k.format.div a b
    | _ => none
def ford (k : FloatKind) (x y : Option Nat) : Option Ordering := x.bind fun a => y.bind fun b => k.format.order a b

def bits (op : BinOp) (k : IntKind) (x y : Int) : Int :=
  let a := BitVec.ofInt k.bits x
  let b := BitVec.ofInt k.bits y
  match op with
  | .and => k.wrap (a &&& b).toNat
  | .or => k.wrap (a ||| b).toNat
  | .xor => k.wrap (a ^^^ b).toNat
  | _ => k.wrap (a &&& ~~~b).toNat

def binI (op : BinOp) (k : IntKind) (a b : Int) : Option C :=
  match op with
  | .add => some (.v (.int k (k.wrap (a + b))))
  | .sub => some (.v (.int k (k.wrap (a - b))))
  | .mul => some (.v (.int k (k.wrap (a * b))))
  | .quo => if b = 0 then none else some (.v (.int k (k.wrap (a.tdiv b))))
  | .rem => if b = 0 then none else some (.v (.int k (a.tmod b)))
  | .and | .or | .xor | .andNot => some (.v (.int k (bits op k a b)))
  | .eql => some (.v (.bool (a == b)))
  | .neq => some (.v (.bool (a != b)))
  | .lss => some (.v (.bool (decide (a < b))))
  | .leq => some (.v (.bool (decide (a ≤ b))))
  | .gtr => some (.v (.bool (decide (b < a))))
  | .geq => some (.v (.bool (decide (b ≤ a))))
  | _ => none

def binF (op : BinOp) (k : FloatKind) (a b : Option Nat) : Option C :=
  match op with
  | .add | .sub | .mul | .quo => some (.f k (fop op k a b))
  | .eql => some (.v (.bool (ford k a b == some .eq)))
  | .neq => some (.v (.bool (ford k a b != some .eq)))
  | .lss => some (.v (.bool (ford k a b == some .lt)))
  | .leq => some (.v (.bool (ford k a b == some .lt || ford k a b == some .eq)))
  | .gtr => some (.v (.bool (ford k a b == some .gt)))
  | .geq => some (.v (.bool (ford k a b == some .gt || ford k a b == some .eq)))
  | _ => none

def binS (op : BinOp) (a b : ByteArray) : Option C :=
  match op with
  | .add => if a.size + b.size ≤ maxLen then some (.v (.string (a ++ b))) else none
  | .eql => some (.v (.bool (a.toList == b.toList)))
  | .neq => some (.v (.bool (!(a.toList == b.toList))))
  | .lss => some (.v (.bool (Op.bytesLess a.toList b.toList)))
  | .leq => some (.v (.bool (Op.bytesLess a.toList b.toList || a.toList == b.toList)))
  | .gtr => some (.v (.bool (!(Op.bytesLess a.toList b.toList || a.toList == b.toList))))
  | .geq => some (.v (.bool (!Op.bytesLess a.toList b.toList)))
  | _ => none

def bin (op : BinOp) (kd : LK) (x y : C) : Option C :=
  match op, x, y with
  | .shl, .v (.int k a), .v (.int _ b) => if b < 0 then none else some (.v (.int k (k.wrap (a * 2 ^ min b.toNat k.bits))))
  | .shr, .v (.int k a), .v (.int _ b) => if b < 0 then none else some (.v (.int k (a.fdiv (2 ^ min b.toNat k.bits))))
  | op, .v (.int k a), .v (.int k' b) => if k = k' then binI op k a b else none
  | op, .f k a, .f k' b => if k = k' then binF op k a b else none
  | op, .v (.string a), .v (.string b) => binS op a b
  | .eql, .v (.bool a), .v (.bool b) => match kd with
    | .bool => some (.v (.bool (a == b)))
    | _ => none
  | .neq, .v (.bool a), .v (.bool b) => match kd with
    | .bool => some (.v (.bool (!(a == b))))
    | _ => none
  | _, _, _ => none

def un (op : UnOp) (x : C) : Option C :=
  match op, x with
  | .neg, .v (.int k n) => some (.v (.int k (k.wrap (0 - n))))
  | .not, .v (.bool b) => some (.v (.bool !b))
  | _, _ => none

/-- The cells of a value's parts, laid into cells. -/
def fillC (place : Nat → Option (Nat × Nat)) (cells : List C) : List (Nat × V) → Option (List C)
  | [] => some cells
  | (i, v) :: rest => match place i, v.cells with
    | some (off, size), some cs => if cs.length = size ∧ off + size ≤ cells.length then fillC place (cells.take off ++ cs ++ cells.drop (off + size)) rest else none
    | _, _ => none

def lenV : V → Option Int
  | .c (.sl _ n _ _) => some n
  | .c (.mu _ _ n _) => some n
  | .c (.v (.slice none 0 0)) => some 0
  | _ => none

def capsOf (ρ : Operand → V) : List Operand → Option (List C)
  | [] => some []
  | x :: r => match ρ x, capsOf ρ r with
    | .c a, some cs => some (a :: cs)
    | _, _ => none

/-- A float of another width; none: it does not fit. -/
def convF (k' k : FloatKind) (x : Option Nat) : Option (Option Nat) :=
  if k' = k then some x else match x with
    | none => some none
    | some b => match k'.decode b with
      | .number s m e => if (k.decode (k.encode (.number s m e))).isInfinity then none else some (some (k.encode (.number s m e)))
      | .infinity s => some (some (k.encode (.infinity s)))
      | .nan _ _ => none

/-- Cells that are bytes. -/
def bytesOf : List C → Option (List Int)
  | [] => some []
  | .v (.int .u8 n) :: r => (bytesOf r).map (n :: ·)
  | _ => none
/-- A word of bytes. -/
def strOf (ns : List Int) : ByteArray := ns.foldl (fun r n => r.push (UInt8.ofNat n.toNat)) ByteArray.empty

/-- A bound of a slice expression. -/
def bnd (ρ : Operand → V) (x : Option Operand) (d : Int) : Option Int :=
  match x with
  | none => some d
  | some y => match ρ y with
    | .c (.v (.int _ n)) => some n
    | _ => none

/-- What an operation that writes nothing comes to. -/
def evq (lay : TypeId → Option Lay) (H : List Ob) (ρ : Operand → V) : Op → Option V
  | .move x | .assign x => some (ρ x)
  | .pick c a b => match ρ c with
    | .c (.v (.bool t)) => some (if t then ρ a else ρ b)
    | _ => none
  | .load t a => match lay t, ρ a with
    | some L, .c (.vw o cs off) => if off + L.size ≤ cs.length then mkV L.kind.agg (reowns o (sub cs off L.size)) else none
    | some L, .c (.pt id off) => match H[id]? with
      | some o => if o.live = true ∧ off + L.size ≤ o.cs.length then mkV L.kind.agg (sub o.cs off L.size) else none
      | none => none
    | _, _ => none
  | .nilCheck x => match ρ x with
    | .c (.vw o cs off) => some (.c (.vw o cs off))
    | .c (.pt id off) => some (.c (.pt id off))
    | .c (.fn g cs) => some (.c (.fn g cs))
    | _ => none
  | .binOp op t x y _ => match lay t, ρ x, ρ y with
    | some L, .c a, .c b => (bin op L.kind a b).map .c
    | _, _, _ => none
  | .unOp op _ x => match ρ x with
    | .c a => (un op a).map .c
    | _ => none
  | .fieldAddr s x f => match lay s, ρ x with
    | some ⟨.struct fs, _, _, _⟩, .c (.vw o cs off) => fs[f]?.map fun p => .c (.vw o cs (off + p.2))
    | some ⟨.struct fs, _, _, _⟩, .c (.pt id off) => fs[f]?.map fun p => .c (.pt id (off + p.2))
    | _, _ => none
  | .field s x f => match lay s, ρ x with
    | some ⟨.struct fs, _, _, _⟩, .agg cs => fs[f]?.bind fun p => (lay p.1).bind fun L => if p.2 + L.size ≤ cs.length then mkV L.kind.agg (sub cs p.2 L.size) else none
    | _, _ => none
  | .indexAddr t x i => match lay t, ρ x, ρ i with
    | some ⟨.slice e, _, _, _⟩, .c (.sl o n k cs), .c (.v (.int _ j)) => match lay e with
      | some L => if L.size = k ∧ 0 < k ∧ 0 ≤ j ∧ j < n then some (.c (.vw o (sub cs (j.toNat * k) k) 0)) else none
      | none => none
    | some ⟨.slice e, _, _, _⟩, .c (.mu id off n k), .c (.v (.int _ j)) => match lay e with
      | some L => if L.size = k ∧ 0 ≤ j ∧ j < n then some (.c (.pt id (off + j.toNat * k))) else none
      | none => none
    | some ⟨.array n e, _, _, _⟩, .c (.vw o cs off), .c (.v (.int _ j)) => match lay e with
      | some L => if 0 ≤ j ∧ j < n then some (.c (.vw o cs (off + j.toNat * L.size))) else none
      | none => none
    | some ⟨.array n e, _, _, _⟩, .c (.pt id off), .c (.v (.int _ j)) => match lay e with
      | some L => if 0 ≤ j ∧ j < n then some (.c (.pt id (off + j.toNat * L.size))) else none
      | none => none
    | _, _, _ => none
  | .index t x i => match lay t, ρ x, ρ i with
    | some ⟨.array n e, _, _, _⟩, .agg cs, .c (.v (.int _ j)) => match lay e with
      | some L => if 0 ≤ j ∧ j < n ∧ j.toNat * L.size + L.size ≤ cs.length then mkV L.kind.agg (sub cs (j.toNat * L.size) L.size) else none
      | none => none
    | some ⟨.string, _, _, _⟩, .c (.v (.string s)), .c (.v (.int _ j)) =>
      if h : 0 ≤ j ∧ j.toNat < s.size then some (.c (.v (.int .u8 ((s[j.toNat]'h.2).toNat : Int)))) else none
    | _, _, _ => none
  | .extract x i => match ρ x with
    | .tup vs => vs[i]?
    | _ => none
  | .makeFunc (.func g) first caps => if first.size = 0 then (capsOf ρ caps.toList).map fun cs => .c (.fn g cs) else none
  | .call { callee := .builtin .len, args, argTypes } => match args.toList, argTypes.toList with
    | [x], [t] => match lay t, ρ x with
      | some ⟨.slice _, _, _, _⟩, v => (lenV v).map fun n => .c (.v (.int .i64 n))
      | some ⟨.string, _, _, _⟩, .c (.v (.string s)) => some (.c (.v (.int .i64 s.size)))
      | some ⟨.array n _, _, _, _⟩, _ => some (.c (.v (.int .i64 n)))
      | _, _ => none
    | _, _ => none
  | .call { callee := .builtin .max, args, argTypes := _ } => match args.toList with
    | [x, y] => match ρ x, ρ y with
      | .c (.v (.int k a)), .c (.v (.int _ b)) => some (.c (.v (.int k (if b > a then b else a))))
      | _, _ => none
    | _ => none
  | .call { callee := .builtin .min, args, argTypes := _ } => match args.toList with
    | [x, y] => match ρ x, ρ y with
      | .c (.v (.int k a)), .c (.v (.int _ b)) => some (.c (.v (.int k (if b < a then b else a))))
      | _, _ => none
    | _ => none
  | .build t parts => match lay t with
    | some ⟨.struct fs, _, _, z⟩ => match fs.mapM (fun p => (lay p.1).map fun L => (p.2, L.size)) with
      | some places => (fillC (places[·]?) (z.map cOf) (parts.toList.map fun p => (p.1, ρ p.2))).map .agg
      | none => none
    | some ⟨.array _ e, _, _, z⟩ => match lay e with
      | some L => (fillC (fun i => some (i * L.size, L.size)) (z.map cOf) (parts.toList.map fun p => (p.1, ρ p.2))).map .agg
      | none => none
    | _ => none
  | .convert s t x => match lay s, lay t, ρ x with
    | some ⟨.int _, _, _, _⟩, some ⟨.int k, _, _, _⟩, .c (.v (.int _ n)) => some (.c (.v (.int k (k.wrap n))))
    | some ⟨.int _, _, _, _⟩, some ⟨.float k, _, _, _⟩, .c (.v (.int _ n)) => some (.c (.f k (some (k.nearest n))))
    | some ⟨.float _, _, _, _⟩, some ⟨.float k, _, _, _⟩, .c (.f k' x) => match convF k' k x with
      | some y => some (.c (.f k y))
      | none => none
    | some ⟨.float _, _, _, _⟩, some ⟨.int k, _, _, _⟩, .c (.f k' (some b)) => match (k'.decode b).toInt .zero with
      | some n => if k.min ≤ n ∧ n ≤ k.max then some (.c (.v (.int k n))) else none
      | none => none
    | some ⟨.string, _, _, _⟩, some ⟨.string, _, _, _⟩, .c (.v (.string s)) => some (.c (.v (.string s)))
    | some ⟨.slice e, _, _, _⟩, some ⟨.string, _, _, _⟩, .c (.sl _ _n k cs) => match lay e, bytesOf cs with
      | some ⟨.int .u8, _, _, _⟩, some ns => if k = 1 then some (.c (.v (.string (strOf ns)))) else none
      | _, _ => none
    | _, _, _ => none
  | .slice t x lo hi none => match lay t, ρ x with
    | some ⟨.slice e, _, _, _⟩, .c (.sl o n k cs) => match lay e, bnd ρ lo 0, bnd ρ hi n with
      | some L, some l, some h => if L.size = k ∧ 0 < k ∧ 0 ≤ l ∧ l ≤ h ∧ h ≤ n then some (.c (.sl o (h.toNat - l.toNat) k (sub cs (l.toNat * k) ((h.toNat - l.toNat) * k)))) else none
      | _, _, _ => none
    | some ⟨.slice e, _, _, _⟩, .c (.mu id off n k) => match lay e, bnd ρ lo 0, bnd ρ hi n with
      | some L, some l, some h => if L.size = k ∧ 0 ≤ l ∧ l ≤ h ∧ h ≤ n ∧ (l = 0 ∨ l < n) then some (.c (.mu id (off + l.toNat * k) (h.toNat - l.toNat) k)) else if 0 < l ∧ l = h ∧ h = n then some (.c (.sl false 0 k [])) else none
      | _, _, _ => none
    | some ⟨.string, _, _, _⟩, .c (.v (.string s)) => match bnd ρ lo 0, bnd ρ hi s.size with
      | some l, some h => if 0 ≤ l ∧ l ≤ h ∧ h ≤ s.size then some (.c (.v (.string (s.extract l.toNat h.toNat)))) else none
      | _, _ => none
    | some ⟨.array n e, _, _, _⟩, .c (.vw o cs off) => match lay e, bnd ρ lo 0, bnd ρ hi n with
      | some L, some l, some h => if 0 < L.size ∧ 0 ≤ l ∧ l ≤ h ∧ h ≤ n ∧ n ≤ maxLen ∧ off + n * L.size ≤ cs.length then some (.c (.sl o (h.toNat - l.toNat) L.size (sub cs (off + l.toNat * L.size) ((h.toNat - l.toNat) * L.size)))) else none
      | _, _, _ => none
    | some ⟨.array n e, _, _, _⟩, .c (.pt id off) => match lay e, bnd ρ lo 0, bnd ρ hi n, H[id]? with
      | some L, some l, some h, some ob => if 0 ≤ l ∧ l ≤ h ∧ h ≤ n ∧ n ≤ maxLen ∧ ob.live = true ∧ off + n * L.size ≤ ob.cs.length ∧ (l = 0 ∨ l < n) then some (.c (.mu id (off + l.toNat * L.size) (h.toNat - l.toNat) L.size)) else none
      | _, _, _, _ => none
    | _, _ => none
  | _ => none
end Go.VL

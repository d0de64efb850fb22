/- A machine for proofs, part C: operations that only read: what they answer. Under no condition. -/
import Derived.Test.YtocppeifkjdeiaaCoreB
namespace Go.Proofs.Ytocppeifkjdeiaa.Mv
open Go

/-! ### what operations answer -/

def intBin (op : BinOp) (k : IntKind) (x y : Int) : Option AV :=
  match op with
  | .add => some (.i k (k.wrap (x + y)))
  | .sub => some (.i k (k.wrap (x - y)))
  | .mul => some (.i k (k.wrap (x * y)))
  | .quo => if y = 0 then none else some (.i k (k.wrap (x.tdiv y)))
  | .rem => if y = 0 then none else some (.i k (x.tmod y))
  | .and => some (.i k (bits .and k x y))
  | .or => some (.i k (bits .or k x y))
  | .xor => some (.i k (bits .xor k x y))
  | .andNot => some (.i k (bits .andNot k x y))
  | .eql => some (.b (x == y))
  | .neq => some (.b (x != y))
  | .lss => some (.b (decide (x < y)))
  | .leq => some (.b (decide (x ≤ y)))
  | .gtr => some (.b (decide (x > y)))
  | .geq => some (.b (decide (x ≥ y)))
  | .shl => if 0 ≤ y ∧ y ≤ k.bits then some (.i k (k.wrap (x * 2 ^ y.toNat))) else none
  | .shr => if 0 ≤ y ∧ y ≤ k.bits then some (.i k (x / 2 ^ y.toNat)) else none
def isShift : BinOp → Bool
  | .shl | .shr => true
  | _ => false

abbrev blt (x y : List UInt8) : Bool := Op.bytesLess x y
def strBin (op : BinOp) (x y : List UInt8) : Option AV :=
  match op with
  | .add => if x.length + y.length ≤ 9223372036854775807 then some (.s (x ++ y)) else none
  | .eql => some (.b (x == y))
  | .neq => some (.b (!(x == y)))
  | .lss => some (.b (blt x y))
  | .leq => some (.b (blt x y || x == y))
  | .gtr => some (.b (!(blt x y || x == y)))
  | .geq => some (.b (!blt x y))
  | _ => none

def eqLeaf : AV → AV → Option Bool
  | .i _ x, .i _ y => some (x == y)
  | .b x, .b y => some (x == y)
  | .s x, .s y => some (x == y)
  | _, _ => none
/-- What a leaf's type must be. -/
def leafTy (tab : Tab) (t : TypeId) : AV → Bool
  | .i k _ => match look tab t with | some i => (match i.d with | .int k' => k == k' | _ => false) | none => false
  | .b _ => match look tab t with | some i => (match i.d with | .bool => true | _ => false) | none => false
  | .s _ => match look tab t with | some i => (match i.d with | .string => true | _ => false) | none => false
  | _ => false
/-- '==' of structs, field by field; a struct within has its fields in line. -/
def eqFlds (tab : Tab) (xs ys : List AV) : Nat → List Field → Option Bool
  | 0, _ => none
  | _ + 1, [] => some true
  | n + 1, f :: fs =>
    if f.name = "_" then none else
    match look tab f.type with
    | none => none
    | some i =>
      match i.d with
      | .struct gs => if i.eqok && decide (f.offset + i.size ≤ xs.length) && decide (f.offset + i.size ≤ ys.length) then
          match eqFlds tab ((xs.drop f.offset).take i.size) ((ys.drop f.offset).take i.size) n gs.toList, eqFlds tab xs ys n fs with
          | some p, some q => some (p && q)
          | _, _ => none
        else none
      | _ => match xs[f.offset]?, ys[f.offset]? with
        | some x, some y => if leafTy tab f.type x && leafTy tab f.type y then
            match eqLeaf x y, eqFlds tab xs ys n fs with
            | some p, some q => some (p && q)
            | _, _ => none
          else none
        | _, _ => none

def bin (tab : Tab) (op : BinOp) (t : TypeId) : AV → AV → Option AV
  | .i k x, .i k' y => if k = k' ∨ isShift op then intBin op k x y else none
  | .s x, .s y => strBin op x y
  | .b p, .b q => match look tab t with
    | some i => match i.d, op with
      | .bool, .eql => some (.b (p == q))
      | .bool, .neq => some (.b (!(p == q)))
      | _, _ => none
    | none => none
  | .agg xs, .agg ys => match look tab t with
    | some i => match i.d with
      | .struct fs => if i.eqok then match op with
          | .eql => (eqFlds tab xs ys 40 fs.toList).map .b
          | .neq => (eqFlds tab xs ys 40 fs.toList).map fun p => .b (!p)
          | _ => none
        else none
      | _ => none
    | none => none
  | .ptr _ _, .x (.pointer none) | .pel _, .x (.pointer none) => match look tab t with
    | some i => match i.d, op with
      | .pointer _, .eql => some (.b false)
      | .pointer _, .neq => some (.b true)
      | _, _ => none
    | none => none
  | _, _ => none

def un (op : UnOp) : AV → Option AV
  | .i k x => match op with
    | .neg => some (.i k (k.wrap (0 - x)))
    | .xor => some (.i k (bits .xor k (if k.signed then -1 else k.max) x))
    | _ => none
  | .b p => match op with
    | .not => some (.b (!p))
    | _ => none
  | _ => none

def toByte : List AV → Option UInt8
  | [.i .u8 n] => some (UInt8.ofNat n.toNat)
  | _ => none
def toBytes : List (List AV) → Option (List UInt8)
  | [] => some []
  | r :: rs => match toByte r, toBytes rs with
    | some x, some xs => some (x :: xs)
    | _, _ => none
/-- Bytes as a slice's elements. -/
def BS (l : List UInt8) : List (List AV) := l.map fun x => [.i .u8 (x.toNat : Int)]
theorem toBytes_BS (l : List UInt8) : toBytes (BS l) = some l := by
  induction l with
  | nil => rfl
  | cons x l ih =>
    simp only [BS, List.map_cons, toBytes, toByte] at ih ⊢
    rw [ih]
    simp

/-- Cells that are bytes. -/
def toCells : List AV → Option (List UInt8)
  | [] => some []
  | c :: cs => match toByte [c], toCells cs with
    | some x, some xs => some (x :: xs)
    | _, _ => none
def cellsB (l : List UInt8) : List AV := l.map fun x => .i .u8 (x.toNat : Int)
theorem toCells_B (l : List UInt8) : toCells (cellsB l) = some l := by
  induction l with
  | nil => rfl
  | cons x l ih =>
    simp only [cellsB, List.map_cons, toCells, toByte] at ih ⊢
    rw [ih]
    simp

def conv (tab : Tab) (src dst : TypeId) (x : AV) : Option AV :=
  match look tab src, look tab dst with
  | some i, some j => match i.d, j.d, x with
    | .int _, .int k, .i _ n => some (.i k (k.wrap n))
    | .slice e, .string, .sh 1 rows => match look tab e with
      | some ie => match ie.d with | .int .u8 => (toBytes rows).map .s | _ => none
      | none => none
    | .slice e, .string, .gr _ _ 1 rows => match look tab e with
      | some ie => match ie.d with | .int .u8 => (toBytes rows).map .s | _ => none
      | none => none
    | .slice e, .string, .nil => match look tab e with
      | some ie => match ie.d with | .int .u8 => some (.s []) | _ => none
      | none => none
    | _, _, _ => none
  | _, _ => none

def part (i : TyI) (cs : List AV) : Option AV :=
  if i.agg then (if i.size ≤ cs.length then some (.agg (cs.take i.size)) else none) else cs.head?

def fldOf (tab : Tab) (t : TypeId) (f : Nat) : Option (Nat × TyI) :=
  match look tab t with
  | some i => match i.d with
    | .struct fs => match fs[f]? with
      | some g => match look tab g.type with
        | some j => if j.size = 0 then none else some (g.offset, j)
        | none => none
      | none => none
    | _ => none
  | none => none

def AV.cells : AV → List AV
  | .agg cs => cs
  | c => [c]
def splice (cs : List AV) (off : Nat) (vs : List AV) : List AV := cs.take off ++ vs ++ cs.drop (off + vs.length)
def fitsIn (sz : Nat) : AV → Bool
  | .agg ds => ds.length == sz
  | c => c.leaf && sz == 1
/-- Parts put in: offset, size, cells. -/
def fillA (cs : List AV) : List (Nat × Nat × AV) → Option (List AV)
  | [] => some cs
  | (off, sz, c) :: r =>
    if fitsIn sz c = true ∧ off + sz ≤ cs.length then fillA (splice cs off c.cells) r else none
def plan (tab : Tab) (fs : Array Field) (st : St) : List (Nat × Operand) → Option (List (Nat × Nat × AV))
  | [] => some []
  | (f, x) :: r => match fs[f]?, plan tab fs st r with
    | some g, some l => match look tab g.type with
      | some j => some ((g.offset, j.size, st.val x) :: l)
      | none => none
    | _, _ => none

def sliceStr (l : List UInt8) (lo hi : Option AV) : Option AV :=
  match lo, hi with
  | none, none => some (.s l)
  | some (.i _ x), none => if 0 ≤ x ∧ x ≤ l.length then some (.s (l.drop x.toNat)) else none
  | none, some (.i _ y) => if 0 ≤ y ∧ y ≤ l.length then some (.s (l.take y.toNat)) else none
  | some (.i _ x), some (.i _ y) => if 0 ≤ x ∧ x ≤ y ∧ y ≤ l.length then some (.s ((l.take y.toNat).drop x.toNat)) else none
  | _, _ => none
def sliceRows (sz : Nat) (rows : List (List AV)) (lo hi : Option AV) : Option AV :=
  match lo, hi with
  | none, none => some (.sh sz rows)
  | some (.i _ x), none => if 0 ≤ x ∧ x ≤ rows.length then some (.sh sz (rows.drop x.toNat)) else none
  | none, some (.i _ y) => if 0 ≤ y ∧ y ≤ rows.length then some (.sh sz (rows.take y.toNat)) else none
  | some (.i _ x), some (.i _ y) => if 0 ≤ x ∧ x ≤ y ∧ y ≤ rows.length then some (.sh sz ((rows.take y.toNat).drop x.toNat)) else none
  | _, _ => none

def rowsOf : AV → Option (Nat × List (List AV))
  | .sh sz rows => some (sz, rows)
  | .gr _ _ sz rows => some (sz, rows)
  | _ => none

def min2A (x y : AV) : Option AV :=
  match x, y with
  | .i k x, .i k' y => if k = k' then some (.i k (if y < x then y else x)) else none
  | .s x, .s y => some (.s (if (blt x y || x == y) = true then x else y))
  | _, _ => none
def max2A (x y : AV) : Option AV :=
  match x, y with
  | .i k x, .i k' y => if k = k' then some (.i k (if y > x then y else x)) else none
  | .s x, .s y => some (.s (if (!blt x y) = true then x else y))
  | _, _ => none

/-- Operations that only read: the answer. -/
def pop (tab : Tab) (st : St) : Op → Option AV
  | .move x | .assign x => some (st.val x)
  | .pick c a b => match st.val c with | .b t => some (if t then st.val a else st.val b) | _ => none
  | .binOp op t x y _ => bin tab op t (st.val x) (st.val y)
  | .unOp op _ x => un op (st.val x)
  | .convert s d x => match st.val x with
    | .bsl t off n 1 => match look tab s, look tab d with
      | some i, some j => match i.d, j.d with
        | .slice e, .string => match look tab e, st.ob t with
          | some ie, .bx cs => match ie.d with
            | .int .u8 => if off + n ≤ cs.length then (toCells ((cs.drop off).take n)).map .s else none
            | _ => none
          | _, _ => none
        | _, _ => none
      | _, _ => none
    | _ => conv tab s d (st.val x)
  | .extract x j => match st.val x with | .tup cs => cs[j]? | _ => none
  | .nilCheck x => match st.val x with
    | .ptr t o => some (.ptr t o)
    | .pel cs => some (.pel cs)
    | _ => none
  | .fieldAddr t x f => match fldOf tab t f with
    | some (off, _) => match st.val x with
      | .ptr t o => some (.ptr t (o + off))
      | .pel cs => some (.pel (cs.drop off))
      | _ => none
    | none => none
  | .field t x f => match fldOf tab t f with
    | some (off, j) => match st.val x with
      | .agg cs => part j (cs.drop off)
      | _ => none
    | none => none
  | .load t x => match look tab t with
    | some i => match st.val x with
      | .ptr g o => match st.ob g with
        | .bx cs => part i (cs.drop o)
        | _ => none
      | .pel cs => part i cs
      | _ => none
    | none => none
  | .build t ps => match look tab t with
    | some i => match i.d with
      | .struct fs => match plan tab fs st ps.toList with
        | some l => (fillA (i.zero.map ofVal) l).map .agg
        | none => none
      | _ => none
    | none => none
  | .indexAddr t x y => match look tab t with
    | some i => match i.d, st.val y with
      | .slice e, .i _ n => match look tab e with
        | some j => match st.val x with
          | .bsl t off len sz => if j.size = sz ∧ 0 ≤ n ∧ n < (len : Int) then some (.ptr t (off + n.toNat * sz)) else none
          | _ => match rowsOf (st.val x) with
            | some (sz, rows) => if j.size = sz ∧ 0 ≤ n ∧ n < rows.length then some (.pel (rows.getD n.toNat [])) else none
            | none => none
        | none => none
      | .array len e, .i _ n => match look tab e, st.val x with
        | some j, .ptr g o => if 0 ≤ n ∧ n < len then some (.ptr g (o + n.toNat * j.size)) else none
        | _, _ => none
      | _, _ => none
    | none => none
  | .index t x y => match look tab t with
    | some i => match i.d, st.val x, st.val y with
      | .string, .s l, .i _ n => if 0 ≤ n ∧ n < l.length then some (.i .u8 ((l.getD n.toNat 0).toNat : Int)) else none
      | _, _, _ => none
    | none => none
  | .slice t x lo hi mx => match mx with
    | some _ => none
    | none => match look tab t with
      | some i => match i.d with
        | .string => match st.val x with
          | .s l => sliceStr l (lo.map st.val) (hi.map st.val)
          | _ => none
        | .slice e => match look tab e, rowsOf (st.val x) with
          | some j, some (sz, rows) => if j.size = sz then sliceRows sz rows (lo.map st.val) (hi.map st.val) else none
          | _, _ => none
        | _ => none
      | none => none
  | .makeFunc fn first caps => match fn with
    | .func f => if first.size = 0 then some (.clo f (caps.toList.map st.val)) else none
    | _ => none
  | .call cl => match cl.callee with
    | .builtin .len => match cl.args.toList, cl.argTypes.toList with
      | [x], [t] => match look tab t with
        | some i => match i.d, st.val x with
          | .string, .s l => some (.i .i64 (l.length : Int))
          | .slice _, .sh _ rows => some (.i .i64 (rows.length : Int))
          | .slice _, .gr _ _ _ rows => some (.i .i64 (rows.length : Int))
          | .slice _, .nil => some (.i .i64 0)
          | .slice _, .bsl _ _ n _ => some (.i .i64 (n : Int))
          | _, _ => none
        | none => none
      | _, _ => none
    | .builtin .min => match cl.args.toList with
      | [x, y] => min2A (st.val x) (st.val y)
      | _ => none
    | .builtin .max => match cl.args.toList with
      | [x, y] => max2A (st.val x) (st.val y)
      | _ => none
    | _ => none
  | _ => none

end Go.Proofs.Ytocppeifkjdeiaa.Mv

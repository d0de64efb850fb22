/- What the statement MeanParts needs, part 2. Under no condition. -/
import Derived.ChangeKeysEq
import Derived.Test.YtocppeifkjdeiaaMMeanParts1
/- A machine for proofs, part B: the table of types, operands, the relation between abstract states and the machine's. Under no condition. -/
namespace Go.Proofs.Ytocppeifkjdeiaa.Mv
open Go

structure TyI where
  d : TypeDesc
  size : Nat
  bytes : Nat
  zero : List Value
  eqok : Bool
abbrev Tab := List (Nat × TyI)

structure TyOk (P : Program) (t : Nat) (i : TyI) : Prop where
  und : P.underlying t = some i.d
  info : ∃ f, P.info? t = some f ∧ f.size = i.size ∧ f.bytes = i.bytes ∧ ∃ z, f.zero = some z ∧ z.cells.toList = i.zero
  one : i.zero.all (·.oneCell') = true ∧ i.zero.length = i.size
  eq : i.eqok = true → P.stoodInHeld t = false ∧ P.eqGuardType P.depth t = false
def TabL (P : Program) : Tab → Prop
  | [] => True
  | (t, i) :: r => TyOk P t i ∧ TabL P r
/-- Each field's type stands in the table. -/
def tabCl (tab : Tab) : Bool := tab.all fun p => match p.2.d with | .struct fs => fs.toList.all fun f => (look tab f.type).isSome | _ => true
structure TabOk (P : Program) (tab : Tab) : Prop where
  rows : TabL P tab
  closed : tabCl tab = true
theorem TabL.at {P : Program} {tab : Tab} (h : TabL P tab) {t : Nat} {i : TyI} (hl : look tab t = some i) : TyOk P t i := by
  induction tab with
  | nil => simp [look] at hl
  | cons p r ih =>
    obtain ⟨j, k⟩ := p
    simp only [look] at hl
    split at hl
    · rename_i e; subst e; cases hl; exact h.1
    · exact ih h.2 hl
theorem TabOk.at {P : Program} {tab : Tab} (h : TabOk P tab) {t : Nat} {i : TyI} (hl : look tab t = some i) : TyOk P t i := h.rows.at hl
theorem look_mem {α : Type} {l : List (Nat × α)} {t : Nat} {x : α} (h : look l t = some x) : (t, x) ∈ l := by
  induction l with
  | nil => simp [look] at h
  | cons p r ih =>
    obtain ⟨j, y⟩ := p
    simp only [look] at h
    split at h
    · rename_i e; subst e; cases h; simp
    · simp [ih h]
theorem TabOk.fields {P : Program} {tab : Tab} (h : TabOk P tab) {t : Nat} {i : TyI} (hl : look tab t = some i) {fs : Array Field} (hd : i.d = .struct fs) : ∀ f ∈ fs.toList, (look tab f.type).isSome = true := by
  have := (List.all_eq_true.1 h.closed) _ (look_mem hl)
  simp only [hd] at this
  exact List.all_eq_true.1 this

def TyI.agg (i : TyI) : Bool := match i.d with | .struct _ | .array _ _ => true | _ => false

section
variable {P : Program} {t : Nat} {i : TyI} (h : TyOk P t i) (w : World)
include h
theorem TyOk.run_und : (underlying t).run P w = .ok i.d w := run_underlying h.und w
theorem TyOk.run_size : (sizeOf t).run P w = .ok i.size w := by
  obtain ⟨f, hf, hs, _⟩ := h.info
  simp [sizeOf, typeInfo, hf, hs]
theorem TyOk.run_zero : ∃ z, (zeroValue t).run P w = .ok z w ∧ z.cells.toList = i.zero := by
  obtain ⟨f, hf, _, _, z, hz, he⟩ := h.info
  exact ⟨z, by simp [zeroValue, typeInfo, hf, hz], he⟩
theorem TyOk.run_agg : (isAgg t).run P w = .ok i.agg w := by
  unfold isAgg
  rw [Sem.run_bind, h.run_und w]
  simp only [Result.andThen_ok, TyI.agg]
  cases i.d <;> rfl
end

/-- A constant. -/
def ofVal : Value → AV
  | .int k n => .i k n
  | .bool t => .b t
  | .string s => .s s.data.toList
  | .slice none 0 0 => .nil
  | v => .x v
theorem ofVal_rep (Γ m v) : Rep Γ m v (ofVal v) := by
  unfold ofVal
  split
  · exact .i
  · exact .b
  · rename_i s; exact .s (l := s.data.toList)
  · exact .nil
  · exact .x
theorem ofVal_leaf {v : Value} (h : v.oneCell' = true) : (ofVal v).leaf = true := by
  unfold ofVal
  split <;> first | rfl | exact h
theorem ofVal_refs (v : Value) : (ofVal v).refs = [] := by
  unfold ofVal
  split <;> rfl

def St.val (s : St) : Operand → AV
  | .tmp t => s.get t
  | .const v => ofVal v
  | .func f => .clo f []
  | .global _ => .any

structure Ctx where
  P : Program
  N : Nat
  w0 : World
  Γ0 : Gam
  S : Nat → Prop
  ins : List Nat
  m0 : Nm
  big : ∀ p ∈ ins, 1000000 ≤ p

/-- Frame: what was there stays, but for the blocks S. -/
structure Fr (S : Nat → Prop) (w0 w : World) : Prop where
  os : w.os = w0.os
  tape : w.tape = w0.tape
  output : w.output = w0.output
  size : w0.heap.size ≤ w.heap.size
  block : ∀ k, k < w0.heap.size → ¬ S k → w.heap[k]? = w0.heap[k]?
theorem Fr.refl (S : Nat → Prop) (w : World) : Fr S w w := ⟨rfl, rfl, rfl, Nat.le_refl _, fun _ _ _ => rfl⟩

structure RRW (c : Ctx) (Γ : Gam) (m : Nm) (st : St) (a : Act) (w : World) : Prop where
  defers : a.defers = []
  size : a.tmps.size = c.N
  gok : ∀ ad v, Γ ad = some v → w.cell? ad = some v
  tmps : ∀ t, t < c.N → Rep Γ m (a.tmps.getD t undef) (st.get t)
  obs : ∀ t, ObOk Γ m w t (st.ob t)
  own : ∀ t g, (st.ob t).blk m t g → c.w0.heap.size ≤ g ∨ c.S g
  inj : ∀ t t' g, (st.ob t).blk m t g → (st.ob t').blk m t' g → t = t'
  frame : Fr c.S c.w0 w
  sub : Sub c.Γ0 Γ
  fresh : ∀ ad, c.Γ0 ad = none → Γ ad ≠ none → c.w0.heap.size ≤ ad.block ∨ c.S ad.block
  ext : ∀ p ∈ c.ins, Ext c.m0 m p

def RR (c : Ctx) (st : St) (a : Act) (w : World) : Prop := ∃ Γ m, RRW c Γ m st a w

/-- Operands' slots are the frame's own. -/
def okOp (N : Nat) : Operand → Bool
  | .tmp t => decide (t < N)
  | _ => true

theorem RRW.eval {c Γ m st a w} (h : RRW c Γ m st a w) (x : Operand) (hx : okOp c.N x = true) : Rep Γ m (a.eval x) (st.val x) := by
  cases x with
  | tmp t => exact h.tmps t (by simpa [okOp] using hx)
  | const v => exact ofVal_rep _ _ _
  | func f => exact .clo [] rfl fun j v c hv => by simp at hv
  | global g => exact .any

/-- What an operation does: slots, objects, tags that are made. -/
structure Eff where
  T : List (Nat × AV)
  B : List (Nat × Ob)
  new : List Nat
def St.app (s : St) (e : Eff) : St := ⟨e.T ++ s.T, e.B ++ s.B⟩

def St.put (s : St) (d : Nat) (c : AV) : St := ⟨(d, c) :: s.T, s.B⟩
def St.puto (s : St) (d : Option Nat) (c : AV) : St := match d with | some d => s.put d c | none => s

theorem RRW.put {c Γ m st a w} (h : RRW c Γ m st a w) (d : Option Nat) {v : Value} {x : AV} (hv : Rep Γ m v x) : RRW c Γ m (st.puto d x) (a.put d v) w := by
  cases d with
  | none => exact h
  | some d =>
    refine ⟨h.defers, by simp [Act.put, h.size], h.gok, fun t ht => ?_, h.obs, h.own, h.inj, h.frame, h.sub, h.fresh, h.ext⟩
    simp only [Act.put, St.puto, St.put, St.get, look]
    by_cases e : d = t
    · subst e
      have hd : d < a.tmps.size := by rw [h.size]; exact ht
      simpa [Array.getElem?_setIfInBounds, hd] using hv
    · rw [if_neg e]
      have := h.tmps t ht
      simp only [St.get] at this
      simpa [Array.getElem?_setIfInBounds, e] using this

/-- Memory turns: what the relation's memory part must show. -/
theorem RRW.mem {c Γ m Γ' m' st a w} {B' : List (Nat × Ob)} {w' : World} (h : RRW c Γ m st a w) (hs : Sub Γ Γ')
    (hm : ∀ t r, r ∈ (st.get t).refs → Ext m m' r) (hext : ∀ p ∈ c.ins, Ext m m' p)
    (gok : ∀ ad v, Γ' ad = some v → w'.cell? ad = some v) (obs : ∀ t, ObOk Γ' m' w' t ((⟨st.T, B'⟩ : St).ob t))
    (own : ∀ t g, ((⟨st.T, B'⟩ : St).ob t).blk m' t g → c.w0.heap.size ≤ g ∨ c.S g)
    (inj : ∀ t t' g, ((⟨st.T, B'⟩ : St).ob t).blk m' t g → ((⟨st.T, B'⟩ : St).ob t').blk m' t' g → t = t')
    (frame : Fr c.S c.w0 w') (fresh : ∀ ad, Γ ad = none → Γ' ad ≠ none → c.w0.heap.size ≤ ad.block ∨ c.S ad.block) : RRW c Γ' m' ⟨st.T, B'⟩ a w' :=
  ⟨h.defers, h.size, gok, fun t ht => (h.tmps t ht).mono hs (hm t), obs, own, inj, frame, h.sub.trans hs, fun ad h0 h1 => by
    cases hg : Γ ad with
    | none => exact fresh ad hg h1
    | some v => exact h.fresh ad h0 (by simp [hg]), fun p hp => ⟨fun g hg => (hext p hp).1 g ((h.ext p hp).1 g hg), fun k x hx => (hext p hp).2 k x ((h.ext p hp).2 k x hx)⟩⟩

end Go.Proofs.Ytocppeifkjdeiaa.Mv

/- A machine for proofs, part C: operations that only read: what they answer. Under no condition. -/
namespace Go.Proofs.Ytocppeifkjdeiaa.Mv
open Go

/-! ### what operations answer -/

def intBin (op : BinOp) (k : IntKind) (x y : Int) : Option AV :=
  match op with
  | .add => some (.i k (k.wrap (x + y)))
  | .sub => some (.i k (k.wrap (x - y)))
  | .mul => some (.i k (k.wrap (x * y)))
  | .quo => if y = 0 then none else some (.i k (k.wrap (x.tdiv y)))
  | .rem => if y = 0 then none else some (.i k (x.tmod y))
  | .and => some (.i k (bits .and k x y))
  | .or => some (.i k (bits .or k x y))
  | .xor => some (.i k (bits .xor k x y))
  | .andNot => some (.i k (bits .andNot k x y))
  | .eql => some (.b (x == y))
  | .neq => some (.b (x != y))
  | .lss => some (.b (decide (x < y)))
  | .leq => some (.b (decide (x ≤ y)))
  | .gtr => some (.b (decide (x > y)))
  | .geq => some (.b (decide (x ≥ y)))
  | .shl => if 0 ≤ y ∧ y ≤ k.bits then some (.i k (k.wrap (x * 2 ^ y.toNat))) else none
  | .shr => if 0 ≤ y ∧ y ≤ k.bits then some (.i k (x / 2 ^ y.toNat)) else none
def isShift : BinOp → Bool
  | .shl | .shr => true
  | _ => false

abbrev blt (x y : List UInt8) : Bool := Op.bytesLess x y
def strBin (op : BinOp) (x y : List UInt8) : Option AV :=
  match op with
  | .add => if x.length + y.length ≤ 9223372036854775807 then some (.s (x ++ y)) else none
  | .eql => some (.b (x == y))
  | .neq => some (.b (!(x == y)))
  | .lss => some (.b (blt x y))
  | .leq => some (.b (blt x y || x == y))
  | .gtr => some (.b (!(blt x y || x == y)))
  | .geq => some (.b (!blt x y))
  | _ => none

def eqLeaf : AV → AV → Option Bool
  | .i _ x, .i _ y => some (x == y)
  | .b x, .b y => some (x == y)
  | .s x, .s y => some (x == y)
  | _, _ => none
/-- What a leaf's type must be. -/
def leafTy (tab : Tab) (t : TypeId) : AV → Bool
  | .i k _ => match look tab t with | some i => (match i.d with | .int k' => k == k' | _ => false) | none => false
  | .b _ => match look tab t with | some i => (match i.d with | .bool => true | _ => false) | none => false
  | .s _ => match look tab t with | some i => (match i.d with | .string => true | _ => false) | none => false
  | _ => false
/-- '==' of structs, field by field; a struct within has its fields in line. -/
def eqFlds (tab : Tab) (xs ys : List AV) : Nat → List Field → Option Bool
  | 0, _ => none
  | _ + 1, [] => some true
  | n + 1, f :: fs =>
    if f.name = "_" then none else
    match look tab f.type with
    | none => none
    | some i =>
      match i.d with
      | .struct gs => if i.eqok && decide (f.offset + i.size ≤ xs.length) && decide (f.offset + i.size ≤ ys.length) then
          match eqFlds tab ((xs.drop f.offset).take i.size) ((ys.drop f.offset).take i.size) n gs.toList, eqFlds tab xs ys n fs with
          | some p, some q => some (p && q)
          | _, _ => none
        else none
      | _ => match xs[f.offset]?, ys[f.offset]? with
        | some x, some y => if leafTy tab f.type x && leafTy tab f.type y then
            match eqLeaf x y, eqFlds tab xs ys n fs with
            | some p, some q => some (p && q)
            | _, _ => none
          else none
        | _, _ => none

def bin (tab : Tab) (op : BinOp) (t : TypeId) : AV → AV → Option AV
  | .i k x, .i k' y => if k = k' ∨ isShift op then intBin op k x y else none
  | .s x, .s y => strBin op x y
  | .b p, .b q => match look tab t with
    | some i => match i.d, op with
      | .bool, .eql => some (.b (p == q))
      | .bool, .neq => some (.b (!(p == q)))
      | _, _ => none
    | none => none
  | .agg xs, .agg ys => match look tab t with
    | some i => match i.d with
      | .struct fs => if i.eqok then match op with
          | .eql => (eqFlds tab xs ys 40 fs.toList).map .b
          | .neq => (eqFlds tab xs ys 40 fs.toList).map fun p => .b (!p)
          | _ => none
        else none
      | _ => none
    | none => none
  | .x (.pointer none), .x (.pointer none) => match look tab t with
    | some i => match i.d, op with
      | .pointer _, .eql => some (.b true)
      | .pointer _, .neq => some (.b false)
      | _, _ => none
    | none => none
  | .ptr _ _, .x (.pointer none) | .pel _, .x (.pointer none) => match look tab t with
    | some i => match i.d, op with
      | .pointer _, .eql => some (.b false)
      | .pointer _, .neq => some (.b true)
      | _, _ => none
    | none => none
  | _, _ => none

def un (op : UnOp) : AV → Option AV
  | .i k x => match op with
    | .neg => some (.i k (k.wrap (0 - x)))
    | .xor => some (.i k (bits .xor k (if k.signed then -1 else k.max) x))
    | _ => none
  | .b p => match op with
    | .not => some (.b (!p))
    | _ => none
  | _ => none

def toByte : List AV → Option UInt8
  | [.i .u8 n] => some (UInt8.ofNat n.toNat)
  | _ => none
def toBytes : List (List AV) → Option (List UInt8)
  | [] => some []
  | r :: rs => match toByte r, toBytes rs with
    | some x, some xs => some (x :: xs)
    | _, _ => none
/-- Bytes asL a slice's elements. -/
def BS (l : List UInt8) : List (List AV) := l.map fun x => [.i .u8 (x.toNat : Int)]
/-- Cells that are bytes. -/
def toCells : List AV → Option (List UInt8)
  | [] => some []
  | c :: cs => match toByte [c], toCells cs with
    | some x, some xs => some (x :: xs)
    | _, _ => none
def cellsB (l : List UInt8) : List AV := l.map fun x => .i .u8 (x.toNat : Int)
theorem toCells_B (l : List UInt8) : toCells (cellsB l) = some l := by
  induction l with
  | nil => rfl
  | cons x l ih =>
    simp only [cellsB, List.map_cons, toCells, toByte] at ih ⊢
    rw [ih]
    simp

def conv (tab : Tab) (src dst : TypeId) (x : AV) : Option AV :=
  match look tab src, look tab dst with
  | some i, some j => match i.d, j.d, x with
    | .int _, .int k, .i _ n => some (.i k (k.wrap n))
    | .slice e, .string, .sh 1 rows => match look tab e with
      | some ie => match ie.d with | .int .u8 => (toBytes rows).map .s | _ => none
      | none => none
    | .slice e, .string, .gr _ _ 1 rows => match look tab e with
      | some ie => match ie.d with | .int .u8 => (toBytes rows).map .s | _ => none
      | none => none
    | .slice e, .string, .nil => match look tab e with
      | some ie => match ie.d with | .int .u8 => some (.s []) | _ => none
      | none => none
    | _, _, _ => none
  | _, _ => none

def part (i : TyI) (cs : List AV) : Option AV :=
  if i.agg then (if i.size ≤ cs.length then some (.agg (cs.take i.size)) else none) else cs.head?

def fldOf (tab : Tab) (t : TypeId) (f : Nat) : Option (Nat × TyI) :=
  match look tab t with
  | some i => match i.d with
    | .struct fs => match fs[f]? with
      | some g => match look tab g.type with
        | some j => if j.size = 0 then none else some (g.offset, j)
        | none => none
      | none => none
    | _ => none
  | none => none

def AV.cells : AV → List AV
  | .agg cs => cs
  | c => [c]
def splice (cs : List AV) (off : Nat) (vs : List AV) : List AV := cs.take off ++ vs ++ cs.drop (off + vs.length)
def fitsIn (sz : Nat) : AV → Bool
  | .agg ds => ds.length == sz
  | c => c.leaf && sz == 1
/-- Parts put in: offset, size, cells. -/
def fillA (cs : List AV) : List (Nat × Nat × AV) → Option (List AV)
  | [] => some cs
  | (off, sz, c) :: r =>
    if fitsIn sz c = true ∧ off + sz ≤ cs.length then fillA (splice cs off c.cells) r else none
def plan (tab : Tab) (fs : Array Field) (st : St) : List (Nat × Operand) → Option (List (Nat × Nat × AV))
  | [] => some []
  | (f, x) :: r => match fs[f]?, plan tab fs st r with
    | some g, some l => match look tab g.type with
      | some j => some ((g.offset, j.size, st.val x) :: l)
      | none => none
    | _, _ => none

def sliceStr (l : List UInt8) (lo hi : Option AV) : Option AV :=
  match lo, hi with
  | none, none => some (.s l)
  | some (.i _ x), none => if 0 ≤ x ∧ x ≤ l.length then some (.s (l.drop x.toNat)) else none
  | none, some (.i _ y) => if 0 ≤ y ∧ y ≤ l.length then some (.s (l.take y.toNat)) else none
  | some (.i _ x), some (.i _ y) => if 0 ≤ x ∧ x ≤ y ∧ y ≤ l.length then some (.s ((l.take y.toNat).drop x.toNat)) else none
  | _, _ => none
def sliceRows (sz : Nat) (rows : List (List AV)) (lo hi : Option AV) : Option AV :=
  match lo, hi with
  | none, none => some (.sh sz rows)
  | some (.i _ x), none => if 0 ≤ x ∧ x ≤ rows.length then some (.sh sz (rows.drop x.toNat)) else none
  | none, some (.i _ y) => if 0 ≤ y ∧ y ≤ rows.length then some (.sh sz (rows.take y.toNat)) else none
  | some (.i _ x), some (.i _ y) => if 0 ≤ x ∧ x ≤ y ∧ y ≤ rows.length then some (.sh sz ((rows.take y.toNat).drop x.toNat)) else none
  | _, _ => none

def rowsOf : AV → Option (Nat × List (List AV))
  | .sh sz rows => some (sz, rows)
  | .gr _ _ sz rows => some (sz, rows)
  | _ => none

def min2A (x y : AV) : Option AV :=
  match x, y with
  | .i k x, .i k' y => if k = k' then some (.i k (if y < x then y else x)) else none
  | .s x, .s y => some (.s (if (blt x y || x == y) = true then x else y))
  | _, _ => none
def max2A (x y : AV) : Option AV :=
  match x, y with
  | .i k x, .i k' y => if k = k' then some (.i k (if y > x then y else x)) else none
  | .s x, .s y => some (.s (if (!blt x y) = true then x else y))
  | _, _ => none

/-- Operations that only read: the answer. -/
def pop (tab : Tab) (st : St) : Op → Option AV
  | .move x | .assign x => some (st.val x)
  | .pick c a b => match st.val c with | .b t => some (if t then st.val a else st.val b) | _ => none
  | .binOp op t x y _ => bin tab op t (st.val x) (st.val y)
  | .unOp op _ x => un op (st.val x)
  | .convert s d x => match st.val x with
    | .bsl t off n 1 => match look tab s, look tab d with
      | some i, some j => match i.d, j.d with
        | .slice e, .string => match look tab e, st.ob t with
          | some ie, .bx cs => match ie.d with
            | .int .u8 => if off + n ≤ cs.length then (toCells ((cs.drop off).take n)).map .s else none
            | _ => none
          | _, _ => none
        | _, _ => none
      | _, _ => none
    | _ => conv tab s d (st.val x)
  | .extract x j => match st.val x with | .tup cs => cs[j]? | _ => none
  | .nilCheck x => match st.val x with
    | .ptr t o => some (.ptr t o)
    | .pel cs => some (.pel cs)
    | _ => none
  | .fieldAddr t x f => match fldOf tab t f with
    | some (off, _) => match st.val x with
      | .ptr t o => some (.ptr t (o + off))
      | .pel cs => some (.pel (cs.drop off))
      | _ => none
    | none => none
  | .field t x f => match fldOf tab t f with
    | some (off, j) => match st.val x with
      | .agg cs => part j (cs.drop off)
      | _ => none
    | none => none
  | .load t x => match look tab t with
    | some i => match st.val x with
      | .ptr g o => match st.ob g with
        | .bx cs => part i (cs.drop o)
        | _ => none
      | .pel cs => part i cs
      | _ => none
    | none => none
  | .build t ps => match look tab t with
    | some i => match i.d with
      | .struct fs => match plan tab fs st ps.toList with
        | some l => (fillA (i.zero.map ofVal) l).map .agg
        | none => none
      | _ => none
    | none => none
  | .indexAddr t x y => match look tab t with
    | some i => match i.d, st.val y with
      | .slice e, .i _ n => match look tab e with
        | some j => match st.val x with
          | .bsl t off len sz => if j.size = sz ∧ 0 ≤ n ∧ n < (len : Int) then some (.ptr t (off + n.toNat * sz)) else none
          | _ => match rowsOf (st.val x) with
            | some (sz, rows) => if j.size = sz ∧ 0 ≤ n ∧ n < rows.length then some (.pel (rows.getD n.toNat [])) else none
            | none => none
        | none => none
      | .array len e, .i _ n => match look tab e, st.val x with
        | some j, .ptr g o => if 0 ≤ n ∧ n < len then some (.ptr g (o + n.toNat * j.size)) else none
        | _, _ => none
      | _, _ => none
    | none => none
  | .index t x y => match look tab t with
    | some i => match i.d, st.val x, st.val y with
      | .string, .s l, .i _ n => if 0 ≤ n ∧ n < l.length then some (.i .u8 ((l.getD n.toNat 0).toNat : Int)) else none
      | _, _, _ => none
    | none => none
  | .slice t x lo hi mx => match mx with
    | some _ => none
    | none => match look tab t with
      | some i => match i.d with
        | .string => match st.val x with
          | .s l => sliceStr l (lo.map st.val) (hi.map st.val)
          | _ => none
        | .slice e => match look tab e, rowsOf (st.val x) with
          | some j, some (sz, rows) => if j.size = sz then sliceRows sz rows (lo.map st.val) (hi.map st.val) else none
          | _, _ => none
        | _ => none
      | none => none
  | .makeFunc fn first caps => match fn with
    | .func f => if first.size = 0 then some (.clo f (caps.toList.map st.val)) else none
    | _ => none
  | .call cl => match cl.callee with
    | .builtin .len => match cl.args.toList, cl.argTypes.toList with
      | [x], [t] => match look tab t with
        | some i => match i.d, st.val x with
          | .string, .s l => some (.i .i64 (l.length : Int))
          | .slice _, .sh _ rows => some (.i .i64 (rows.length : Int))
          | .slice _, .gr _ _ _ rows => some (.i .i64 (rows.length : Int))
          | .slice _, .nil => some (.i .i64 0)
          | .slice _, .bsl _ _ n _ => some (.i .i64 (n : Int))
          | _, _ => none
        | none => none
      | _, _ => none
    | .builtin .min => match cl.args.toList with
      | [x, y] => min2A (st.val x) (st.val y)
      | _ => none
    | .builtin .max => match cl.args.toList with
      | [x, y] => max2A (st.val x) (st.val y)
      | _ => none
    | _ => none
  | _ => none

end Go.Proofs.Ytocppeifkjdeiaa.Mv

/- A machine for proofs, part D: operations that only read answer what part C says. Under no condition. -/
namespace Go.Proofs.Ytocppeifkjdeiaa.Mv
open Go

theorem add_add (a : Addr) (x y : Nat) : (a.add x).add y = a.add (x + y) := by
  unfold Addr.add
  by_cases hx : x = 0
  · simp [hx]
  · by_cases hy : y = 0
    · simp [hx, hy]
    · have : ¬ (x + y = 0) := by omega
      simp [hx, hy, Nat.add_assoc]
theorem add_lit (g off k : Nat) : (⟨g, off, none⟩ : Addr).add k = ⟨g, off + k, none⟩ := by
  unfold Addr.add
  split <;> simp_all

theorem Rep.up {Γ m v c} (h : Rep Γ Nm.e v c) : Rep Γ m v c := h.mono (Sub.refl _) fun _ _ => ⟨fun _ h => by simp [Nm.e] at h, fun _ _ h => by simp [Nm.e] at h⟩

/-! ### whole numbers and strings -/
theorem intBin_run {P : Program} {w : World} {op : BinOp} {t : TypeId} {k : IntKind} {x y : Int} {v : AV} (h : intBin op k x y = some v) {Γ m} (k' : IntKind) (hk : k = k' ∨ isShift op = true) :
    ∃ val, (binOp op t (.int k x) (.int k' y)).run P w = .ok val w ∧ Rep Γ m val v := by
  have hk' : isShift op = false → k = k' := fun e => hk.resolve_right (by simp [e])
  cases op <;> simp only [intBin] at h
  case quo => split at h <;> cases h; obtain rfl := hk' rfl; rename_i e; exact ⟨_, by simp [binOp, Op.intDiv, e], .i⟩
  case rem => split at h <;> cases h; obtain rfl := hk' rfl; rename_i e; exact ⟨_, by simp [binOp, Op.intDiv, e], .i⟩
  case shl => split at h <;> cases h; rename_i e; exact ⟨_, by simp only [binOp, shift_shl k k' x y e.1 e.2]; exact Sem.run_pure _ _ _, .i⟩
  case shr => split at h <;> cases h; rename_i e; exact ⟨_, by simp only [binOp, shift_shr k k' x y e.1 e.2]; exact Sem.run_pure _ _ _, .i⟩
  all_goals
    obtain rfl := hk' rfl
    cases h
  case and => exact ⟨_, by simp only [binOp, ne_eq, not_true_eq_false, if_false, intBits_and]; rfl, .i⟩
  case or => exact ⟨_, by simp only [binOp, ne_eq, not_true_eq_false, if_false, intBits_or]; rfl, .i⟩
  case xor => exact ⟨_, by simp only [binOp, ne_eq, not_true_eq_false, if_false, intBits_xor]; rfl, .i⟩
  case andNot => exact ⟨_, by simp only [binOp, ne_eq, not_true_eq_false, if_false, intBits_andNot]; rfl, .i⟩
  all_goals exact ⟨_, by simp [binOp, Op.intArith, Op.intCmp]; rfl, by constructor⟩

theorem strBin_run {P : Program} {w : World} {op : BinOp} {t : TypeId} {x y : List UInt8} {v : AV} (h : strBin op x y = some v) {Γ m} :
    ∃ val, (binOp op t (.string ⟨x.toArray⟩) (.string ⟨y.toArray⟩)).run P w = .ok val w ∧ Rep Γ m val v := by
  have hb : ∀ l : List UInt8, ByteArray.toList ⟨l.toArray⟩ = l := fun l => by rw [ByteArray.toList_eq]
  have hs : ∀ l : List UInt8, ByteArray.size ⟨l.toArray⟩ = l.length := fun l => by simp [ByteArray.size]
  cases op <;> simp only [strBin] at h
  case add =>
    split at h <;> cases h
    rename_i e
    refine ⟨.string ⟨(x ++ y).toArray⟩, ?_, .s⟩
    have e1 : ¬ ((9223372036854775807 : Int) < (x.length : Int) + (y.length : Int)) := by omega
    have hm : IntKind.i64.max = 9223372036854775807 := by decide
    simp only [binOp, Op.stringOp, hs, hm]
    rw [if_neg (by omega), Sem.run_pure]
    congr 2
  all_goals first | (cases h; done) | (cases h; exact ⟨_, by simp only [binOp, Op.stringOp, hb]; rfl, .b⟩)

/-! ### equality of structs -/
theorem eqLeaf_run {P : Program} {tab : Tab} (ht : TabOk P tab) {w : World} {Γ m} {t : TypeId} {x y : AV} {p : Bool} {u v : Value} (hu : Rep Γ m u x) (hv : Rep Γ m v y)
    (hx : leafTy tab t x = true) (hy : leafTy tab t y = true) (h : eqLeaf x y = some p) (d : Nat) : (Op.equalIn (d + 1) t u v).run P w = .ok p w := by
  unfold eqLeaf at h
  split at h <;> cases h
  · cases hu; cases hv
    simp only [leafTy] at hx hy
    split at hx
    · rename_i i hl
      rw [hl] at hy
      have hd := (ht.at hl).und
      simp only at hy
      split at hx
      · rename_i k' e
        rw [e] at hy hd
        simp only [beq_iff_eq] at hx hy
        subst hx; subst hy
        exact run_equalIn_int w d t _ _ _ _ hd
      · cases hx
    · cases hx
  · cases hu; cases hv
    simp only [leafTy] at hx
    split at hx
    · rename_i i hl
      have hd := (ht.at hl).und
      split at hx
      · rename_i e
        rw [e] at hd
        exact run_equalIn_bool w d t _ _ hd
      · cases hx
    · cases hx
  · cases hu; cases hv
    simp only [leafTy] at hx
    split at hx
    · rename_i i hl
      have hd := (ht.at hl).und
      split at hx
      · rename_i e
        rw [e] at hd
        rw [run_equalIn_string w d t _ _ hd]
        simp [ByteArray.toList_eq]
      · cases hx
    · cases hx

theorem run_part_agg {P : Program} {tab : Tab} (ht : TabOk P tab) {w : World} {t : TypeId} {i : TyI} (hl : look tab t = some i) (ha : i.agg = true) (vs : List Value) (off : Nat) :
    (Go.part t vs.toArray off).run P w = .ok (.agg ((vs.drop off).take i.size).toArray) w := by
  unfold Go.part
  rw [Sem.run_bind, (ht.at hl).run_agg w, ha]
  simp only [Result.andThen_ok, if_true, Sem.run_bind, (ht.at hl).run_size w, Sem.run_pure]
  congr 2
  apply Array.ext'
  simp
theorem run_part_one {P : Program} {tab : Tab} (ht : TabOk P tab) {w : World} {t : TypeId} {i : TyI} (hl : look tab t = some i) (ha : i.agg = false) (vs : List Value) (off : Nat) {v : Value} (hv : vs[off]? = some v) :
    (Go.part t vs.toArray off).run P w = .ok v w := by
  unfold Go.part
  rw [Sem.run_bind, (ht.at hl).run_agg w, ha]
  simp [hv]

/-- Pieces of a list of values stand for pieces of what they stand for. -/
def RepL (Γ : Gam) (m : Nm) (vs : List Value) (cs : List AV) : Prop := vs.length = cs.length ∧ ∀ (j : Nat) (v : Value) (c : AV), vs[j]? = some v → cs[j]? = some c → Rep Γ m v c
theorem RepL.drop {Γ m vs cs} (h : RepL Γ m vs cs) (n : Nat) : RepL Γ m (vs.drop n) (cs.drop n) :=
  ⟨by simp [h.1], fun j v c hv hc => h.2 (n + j) v c (by simpa using hv) (by simpa using hc)⟩
theorem RepL.take {Γ m vs cs} (h : RepL Γ m vs cs) (n : Nat) : RepL Γ m (vs.take n) (cs.take n) :=
  ⟨by simp [h.1], fun j v c hv hc => by
    rw [List.getElem?_take] at hv hc
    split at hv
    · rename_i e; rw [if_pos e] at hc; exact h.2 j v c hv hc
    · cases hv⟩
theorem RepL.append {Γ m vs cs vs' cs'} (h : RepL Γ m vs cs) (h' : RepL Γ m vs' cs') : RepL Γ m (vs ++ vs') (cs ++ cs') :=
  ⟨by simp [h.1, h'.1], fun j v c hv hc => by
    rw [List.getElem?_append] at hv hc
    split at hv
    · rename_i e; rw [if_pos (by rw [← h.1]; exact e)] at hc; exact h.2 j v c hv hc
    · rename_i e; rw [if_neg (by rw [← h.1]; exact e)] at hc; rw [← h.1] at hc; exact h'.2 _ v c hv hc⟩
theorem RepL.agg {Γ m vs cs} (h : RepL Γ m vs cs) : Rep Γ m (.agg vs.toArray) (.agg cs) := .agg vs h.1 h.2
theorem RepL.get {Γ m vs cs} (h : RepL Γ m vs cs) {j : Nat} {c : AV} (hc : cs[j]? = some c) : ∃ v, vs[j]? = some v ∧ Rep Γ m v c := by
  have hj : j < vs.length := by rw [h.1]; exact (List.getElem?_eq_some_iff.1 hc).1
  exact ⟨vs[j], List.getElem?_eq_getElem hj, h.2 j _ c (List.getElem?_eq_getElem hj) hc⟩
theorem Rep.agg_inv {Γ m v cs} (h : Rep Γ m v (.agg cs)) : ∃ vs : List Value, v = .agg vs.toArray ∧ RepL Γ m vs cs := by
  cases h with | agg vs h1 h2 => exact ⟨vs, rfl, h1, h2⟩
theorem Rep.tup_inv {Γ m v cs} (h : Rep Γ m v (.tup cs)) : ∃ vs : List Value, v = .tuple vs.toArray ∧ RepL Γ m vs cs := by
  cases h with | tup vs h1 h2 => exact ⟨vs, rfl, h1, h2⟩
theorem RepL.up {Γ m vs cs} (h : RepL Γ Nm.e vs cs) : RepL Γ m vs cs := ⟨h.1, fun j v c hv hc => (h.2 j v c hv hc).up⟩
theorem RepL.nil {Γ m} : RepL Γ m [] [] := ⟨rfl, fun j v c hv => by simp at hv⟩
theorem RepL.cons {Γ m v c vs cs} (h : Rep Γ m v c) (h' : RepL Γ m vs cs) : RepL Γ m (v :: vs) (c :: cs) :=
  ⟨by simp [h'.1], fun j x y hx hy => by
    cases j with
    | zero => simp at hx hy; subst hx; subst hy; exact h
    | succ j => exact h'.2 j x y (by simpa using hx) (by simpa using hy)⟩

theorem part_run {P : Program} {tab : Tab} (ht : TabOk P tab) {w : World} {Γ m} {t : TypeId} {i : TyI} (hl : look tab t = some i) {vs : List Value} {cs : List AV} (h : RepL Γ m vs cs) (off : Nat) {c : AV} (hc : part i (cs.drop off) = some c) :
    ∃ v, (Go.part t vs.toArray off).run P w = .ok v w ∧ Rep Γ m v c := by
  unfold part at hc
  split at hc
  · rename_i ha
    split at hc <;> cases hc
    exact ⟨_, run_part_agg ht hl ha vs off, ((h.drop off).take i.size).agg⟩
  · rename_i ha
    have hc' : cs[off]? = some c := by simpa [List.head?_drop] using hc
    obtain ⟨v, hv, hr⟩ := h.get hc'
    exact ⟨v, run_part_one ht hl (by simpa using ha) vs off hv, hr⟩

theorem eqFlds_run {P : Program} {tab : Tab} (ht : TabOk P tab) {Γ m} : ∀ (n : Nat) (fs : List Field) (xs ys : List AV) (us vs : List Value) (p : Bool) (w : World) (d : Nat), n ≤ d + 1 →
    RepL Γ m us xs → RepL Γ m vs ys → eqFlds tab xs ys n fs = some p → (Op.eqFields d us.toArray vs.toArray fs).run P w = .ok p w
  | 0, fs, xs, ys, us, vs, p, w, d, hd, hu, hv, h => by simp [eqFlds] at h
  | n + 1, [], xs, ys, us, vs, p, w, d, hd, hu, hv, h => by simp [eqFlds] at h; subst h; simp [Op.eqFields]
  | n + 1, f :: fs, xs, ys, us, vs, p, w, d, hd, hu, hv, h => by
    simp only [eqFlds] at h
    split at h
    · cases h
    · rename_i hn
      split at h
      · cases h
      · rename_i i hl
        have hfs := fun q (hq : eqFlds tab xs ys n fs = some q) => eqFlds_run ht n fs xs ys us vs q w d (by omega) hu hv hq
        simp only [Op.eqFields, ne_eq, hn, not_false_eq_true, if_true, Sem.run_bind]
        split at h
        · rename_i gs hgs
          split at h
          · rename_i hc
            simp only [Bool.and_eq_true, decide_eq_true_eq] at hc
            split at h
            · rename_i p1 q1 e1 e2
              cases h
              have ha : i.agg = true := by simp [TyI.agg, hgs]
              rw [run_part_agg ht hl ha us f.offset]
              simp only [Result.andThen_ok]
              rw [run_part_agg ht hl ha vs f.offset]
              simp only [Result.andThen_ok]
              have hn1 : n ≠ 0 := by intro e; subst e; simp [eqFlds] at e1
              obtain ⟨d', rfl⟩ : ∃ d', d = d' + 1 := ⟨d - 1, by omega⟩
              have hund := (ht.at hl).und
              have hff : P.fieldsOf f.type = gs := by simp [Program.fieldsOf, hund, hgs]
              rw [run_equalIn_agg w d' f.type _ _ (by rw [hund, hgs, hff]) ((ht.at hl).eq hc.1.1).1, hff]
              rw [eqFlds_run ht n gs.toList _ _ _ _ p1 w d' (by omega) ((hu.drop f.offset).take i.size) ((hv.drop f.offset).take i.size) e1]
              simp only [Result.andThen_ok]
              cases p1
              · simp
              · simp [hfs q1 e2]
            · cases h
          · cases h
        · rename_i hag
          split at h
          · rename_i x y hx hy
            split at h
            · rename_i hlt
              simp only [Bool.and_eq_true] at hlt
              split at h
              · rename_i p1 q1 e1 e2
                cases h
                have ha : i.agg = false := by
                  have h1 := hlt.1
                  cases x <;> simp [leafTy, hl] at h1
                  all_goals (simp only [TyI.agg]; split <;> simp_all)
                obtain ⟨u, hu1, hu2⟩ := hu.get hx
                obtain ⟨v, hv1, hv2⟩ := hv.get hy
                rw [run_part_one ht hl ha us f.offset hu1]
                simp only [Result.andThen_ok]
                rw [run_part_one ht hl ha vs f.offset hv1]
                simp only [Result.andThen_ok]
                have hn1 : n ≠ 0 := by intro e; subst e; simp [eqFlds] at e2
                obtain ⟨d', rfl⟩ : ∃ d', d = d' + 1 := ⟨d - 1, by omega⟩
                rw [eqLeaf_run ht hu2 hv2 hlt.1 hlt.2 e1 d']
                simp only [Result.andThen_ok]
                cases p1
                · simp
                · simp [hfs q1 e2]
              · cases h
            · cases h
          · cases h

end Go.Proofs.Ytocppeifkjdeiaa.Mv

/- A machine for proofs, part E: operations that only read, all of them. Under no condition. -/
namespace Go.Proofs.Ytocppeifkjdeiaa.Mv
open Go
set_option linter.unusedSimpArgs false
set_option linter.unusedVariables false

/-! ### rows -/
theorem flat_at {rows : List (List AV)} {sz : Nat} (h : ∀ r ∈ rows, r.length = sz) : ∀ {i : Nat} {row : List AV}, rows[i]? = some row → (rows.flatten.drop (i * sz)).take sz = row := by
  induction rows with
  | nil => intro i row hi; simp at hi
  | cons r rs ih =>
    intro i row hi
    have hr : r.length = sz := h r (by simp)
    cases i with
    | zero =>
      simp at hi; subst hi
      simp [← hr]
    | succ i =>
      have := ih (fun r hr => h r (by simp [hr])) (i := i) (row := row) (by simpa using hi)
      rw [List.flatten_cons, List.drop_append]
      have e1 : r.drop ((i + 1) * sz) = [] := List.drop_eq_nil_of_le (by rw [hr, Nat.add_mul]; omega)
      have e2 : (i + 1) * sz - r.length = i * sz := by rw [hr, Nat.add_mul]; omega
      rw [e1, e2, List.nil_append]
      exact this
theorem flat_len {rows : List (List AV)} {sz : Nat} (h : ∀ r ∈ rows, r.length = sz) : rows.flatten.length = rows.length * sz := by
  induction rows with
  | nil => simp
  | cons r rs ih =>
    rw [List.flatten_cons, List.length_append, ih (fun r hr => h r (by simp [hr])), h r (by simp), List.length_cons, Nat.add_mul]
    omega
theorem flat_take {rows : List (List AV)} {sz : Nat} (h : ∀ r ∈ rows, r.length = sz) (n : Nat) : (rows.take n).flatten = rows.flatten.take (n * sz) := by
  induction rows generalizing n with
  | nil => simp
  | cons r rs ih =>
    have hr : r.length = sz := h r (by simp)
    cases n with
    | zero => simp
    | succ n =>
      rw [List.take_succ_cons, List.flatten_cons, ih (fun r hr => h r (by simp [hr])), List.flatten_cons, List.take_append]
      have e1 : r.take ((n + 1) * sz) = r := List.take_of_length_le (by rw [hr, Nat.add_mul]; omega)
      have e2 : (n + 1) * sz - r.length = n * sz := by rw [hr, Nat.add_mul]; omega
      rw [e1, e2]
theorem flat_drop {rows : List (List AV)} {sz : Nat} (h : ∀ r ∈ rows, r.length = sz) (n : Nat) : (rows.drop n).flatten = rows.flatten.drop (n * sz) := by
  induction rows generalizing n with
  | nil => simp
  | cons r rs ih =>
    have hr : r.length = sz := h r (by simp)
    cases n with
    | zero => simp
    | succ n =>
      rw [List.drop_succ_cons, ih (fun r hr => h r (by simp [hr])), List.flatten_cons, List.drop_append]
      have e1 : r.drop ((n + 1) * sz) = [] := List.drop_eq_nil_of_le (by rw [hr, Nat.add_mul]; omega)
      have e2 : (n + 1) * sz - r.length = n * sz := by rw [hr, Nat.add_mul]; omega
      rw [e1, e2, List.nil_append]

/-- What a readable slice is, in parts. -/
theorem Rep.sh_inv {Γ m v sz rows} (h : Rep Γ m v (.sh sz rows)) : (∃ a, v = .slice a 0 0 ∧ rows = []) ∨
    ∃ (a : Addr) (cap : Nat) (vs : List Value), v = .slice (some a) rows.length cap ∧ rows.length ≤ cap ∧ cap ≤ maxLen ∧ (∀ r ∈ rows, r.length = sz) ∧
      (∀ (j : Nat) (v : Value), vs[j]? = some v → Γ (a.add j) = some v) ∧ (∀ v ∈ vs, v.oneCell' = true) ∧ RepL Γ Nm.e vs rows.flatten := by
  cases h with
  | sh0 => exact .inl ⟨_, rfl, rfl⟩
  | sh vs h1 h2 h3 h4 h5 h6 h7 h8 => subst h3; exact .inr ⟨_, _, vs, rfl, h1, h2, h4, h6, h7, h5, h8⟩
theorem rowsOf_rep {Γ m v c sz rows} (h : Rep Γ m v c) (hr : rowsOf c = some (sz, rows)) : Rep Γ m v (.sh sz rows) := by
  cases c <;> simp [rowsOf] at hr
  · obtain ⟨rfl, rfl⟩ := hr; exact h
  · obtain ⟨rfl, rfl⟩ := hr; cases h with | gr h _ => exact h

theorem pel_mk {Γ m} {a : Addr} {vs : List Value} {cs : List AV} (hg : ∀ (j : Nat) (v : Value), vs[j]? = some v → Γ (a.add j) = some v) (h1 : ∀ v ∈ vs, v.oneCell' = true) (hr : RepL Γ Nm.e vs cs) (off n : Nat) :
    Rep Γ m (.pointer (some (a.add off))) (.pel ((cs.drop off).take n)) := by
  have h := (hr.drop off).take n
  refine .pel ((vs.drop off).take n) h.1 (fun j v hv => ?_) (fun v hv => h1 v (List.mem_of_mem_drop (List.mem_of_mem_take hv))) h.2
  rw [add_add]
  rw [List.getElem?_take] at hv
  split at hv
  · exact hg _ _ (by simpa using hv)
  · cases hv

theorem indexAt_run {P : Program} {tab : Tab} (ht : TabOk P tab) {w : World} {Γ m v sz rows} (h : Rep Γ m v (.sh sz rows)) {t e : TypeId} {i j : TyI} (hl : look tab t = some i) (hd : i.d = .slice e) (he : look tab e = some j) (hsz : j.size = sz)
    {k : IntKind} {n : Int} (h0 : 0 ≤ n) (h1 : n < rows.length) : ∃ val, (Instr.indexAt t v (.int k n)).run P w = .ok val w ∧ Rep Γ m val (.pel (rows.getD n.toNat [])) := by
  rcases h.sh_inv with ⟨a, rfl, rfl⟩ | ⟨a, cap, vs, rfl, h2, h3, h4, h5, h6, h7⟩
  · simp at h1; omega
  · refine ⟨.pointer (some (a.add (n.toNat * sz))), ?_, ?_⟩
    · have hu := (ht.at hl).run_und w
      rw [hd] at hu
      simp [Instr.indexAt, asIntOf, hu, h0, h1, (ht.at he).run_size w, hsz]
    · have hn : n.toNat < rows.length := by omega
      have hr : rows[n.toNat]? = some (rows.getD n.toNat []) := by simp [List.getD, List.getElem?_eq_getElem hn]
      have := pel_mk (m := m) h5 h6 h7 (n.toNat * sz) sz
      rwa [flat_at h4 hr] at this

/-! ### parts put in -/
theorem foldl_set (vs : List Value) : ∀ (cs : List Value) (off i : Nat), off + i + vs.length ≤ cs.length →
    ((vs.zipIdx i).foldl (fun (cs : Array Value) (p : Value × Nat) => cs.setIfInBounds (off + p.2) p.1) cs.toArray) = (cs.take (off + i) ++ vs ++ cs.drop (off + i + vs.length)).toArray := by
  induction vs with
  | nil => intro cs off i h; simp
  | cons v vs ih =>
    intro cs off i h
    simp only [List.zipIdx_cons, List.foldl_cons, List.setIfInBounds_toArray]
    rw [ih (cs.set (off + i) v) off (i + 1) (by simp at h ⊢; omega)]
    congr 1
    have := list_seg_step cs (off + i) v vs (by simp at h ⊢; omega)
    simpa [Nat.add_assoc, Nat.add_comm, Nat.add_left_comm] using this

theorem fits_cells {Γ m v c sz} (h : Rep Γ m v c) (hf : fitsIn sz c = true) : ∃ vs : List Value, v.cells = vs.toArray ∧ vs.length = sz ∧ RepL Γ m vs c.cells := by
  cases c with
  | agg ds =>
    obtain ⟨vs, rfl, hr⟩ := h.agg_inv
    simp only [fitsIn, beq_iff_eq] at hf
    exact ⟨vs, rfl, by rw [hr.1, hf], hr⟩
  | _ =>
    simp only [fitsIn, Bool.and_eq_true, beq_iff_eq] at hf
    have h1 := h.one hf.1
    have : v.cells = #[v] := by cases v <;> simp_all [Value.cells, Value.oneCell']
    exact ⟨[v], by rw [this], by simp [hf.2], .cons h .nil⟩

theorem fill_run {Γ m} {place : Nat → Option (Nat × Nat)} : ∀ (l : List (Nat × Nat × AV)) (ps : List (Nat × Value)) (us : List Value) (cs ds : List AV), RepL Γ m us cs → fillA cs l = some ds →
    l.length = ps.length → (∀ (j : Nat) o s c f v, l[j]? = some (o, s, c) → ps[j]? = some (f, v) → place f = some (o, s) ∧ Rep Γ m v c) →
    ∃ vs : List Value, Instr.fill place us.toArray ps = some vs.toArray ∧ RepL Γ m vs ds
  | [], ps, us, cs, ds, hr, h, hl, _ => by
    cases ps with
    | nil => simp [fillA] at h; subst h; exact ⟨us, rfl, hr⟩
    | cons p ps => simp at hl
  | (o, s, c) :: l, ps, us, cs, ds, hr, h, hl, hp => by
    cases ps with
    | nil => simp at hl
    | cons p ps =>
      obtain ⟨f, v⟩ := p
      simp only [fillA] at h
      split at h
      · rename_i hc
        obtain ⟨hpl, hv⟩ := hp 0 o s c f v rfl rfl
        obtain ⟨vs, hvs, hvl, hvr⟩ := fits_cells hv hc.1
        have hus : us.length = cs.length := hr.1
        have hcl : c.cells.length = s := by rw [← hvr.1, hvl]
        have hstep : RepL Γ m (us.take o ++ vs ++ us.drop (o + vs.length)) (splice cs o c.cells) := by
          unfold splice
          rw [hcl, hvl]
          exact ((hr.take o).append hvr).append (hr.drop _)
        obtain ⟨ws, hw, hwr⟩ := fill_run l ps (us.take o ++ vs ++ us.drop (o + vs.length)) _ ds hstep h (by simpa using hl) fun j o s c f v h1 h2 => hp (j + 1) o s c f v (by simpa using h1) (by simpa using h2)
        refine ⟨ws, ?_, hwr⟩
        simp only [Instr.fill, hpl]
        have e1 : ¬ ((v.cells.size ≠ s || decide (o + v.cells.size > us.toArray.size)) = true) := by
          simp [hvs, hvl, hus]
          have := hc.2
          omega
        rw [if_neg e1]
        have hz : v.cells.zipIdx.foldl (fun (cs : Array Value) (p : Value × Nat) => cs.setIfInBounds (o + p.2) p.1) us.toArray = (us.take o ++ vs ++ us.drop (o + vs.length)).toArray := by
          rw [hvs, ← Array.foldl_toList]
          have := foldl_set vs us o 0 (by rw [hvl, hus]; have := hc.2; omega)
          simpa using this
        exact (congrArg (fun z => Instr.fill place z ps) hz).trans hw
      · cases h

theorem mapM_fields {P : Program} {tab : Tab} (ht : TabOk P tab) (w : World) : ∀ (fs : List Field), (∀ f ∈ fs, (look tab f.type).isSome = true) →
    ∃ ls : List (Nat × Nat), ((fs.mapM fun f => do pure (f.offset, ← sizeOf f.type) : Sem (List (Nat × Nat)))).run P w = .ok ls w ∧ ls.length = fs.length ∧
      ∀ (j : Nat) f, fs[j]? = some f → ∃ i, look tab f.type = some i ∧ ls[j]? = some (f.offset, i.size)
  | [], _ => ⟨[], by simp, rfl, by simp⟩
  | f :: fs, h => by
    obtain ⟨ls, h1, h2, h3⟩ := mapM_fields ht w fs fun g hg => h g (by simp [hg])
    obtain ⟨i, hi⟩ := Option.isSome_iff_exists.1 (h f (by simp))
    refine ⟨(f.offset, i.size) :: ls, ?_, by simp [h2], ?_⟩
    · simp only [List.mapM_cons, Sem.run_bind, (ht.at hi).run_size w, Result.andThen_ok, Sem.run_pure, h1]
    · intro j g hg
      cases j with
      | zero => simp at hg; subst hg; exact ⟨i, hi, rfl⟩
      | succ j => simpa using h3 j g (by simpa using hg)

theorem plan_spec {tab : Tab} {fs : Array Field} {st : St} : ∀ {ps : List (Nat × Operand)} {l : List (Nat × Nat × AV)}, plan tab fs st ps = some l → l.length = ps.length ∧
    ∀ (j : Nat) o s c f x, l[j]? = some (o, s, c) → ps[j]? = some (f, x) → ∃ g i, fs[f]? = some g ∧ look tab g.type = some i ∧ o = g.offset ∧ s = i.size ∧ c = st.val x
  | [], l, h => by simp [plan] at h; subst h; simp
  | (f, x) :: ps, l, h => by
    simp only [plan] at h
    split at h
    · rename_i g l' hg hl'
      split at h
      · rename_i i hi
        cases h
        obtain ⟨h1, h2⟩ := plan_spec hl'
        refine ⟨by simp [h1], fun j o s c f' x' ho hp => ?_⟩
        cases j with
        | zero => simp at ho hp; obtain ⟨rfl, rfl, rfl⟩ := ho; obtain ⟨rfl, rfl⟩ := hp; exact ⟨g, i, hg, hi, rfl, rfl, rfl⟩
        | succ j => exact h2 j o s c f' x' (by simpa using ho) (by simpa using hp)
      · cases h
    · cases h

theorem build_run {c : Ctx} {Γ m st a w} {tab : Tab} (ht : TabOk c.P tab) (h : RRW c Γ m st a w) {t : TypeId} {ps : Array (Nat × Operand)} (hok : ∀ p ∈ ps.toList, okOp c.N p.2 = true) {fs : Array Field} {i : TyI} (hl : look tab t = some i) (hd : i.d = .struct fs)
    {l : List (Nat × Nat × AV)} (hp : plan tab fs st ps.toList = some l) {ds : List AV} (hf : fillA (i.zero.map ofVal) l = some ds) :
    ∃ val, (Instr.build t (ps.map fun (i, x) => (i, a.eval x))).run c.P w = .ok val w ∧ Rep Γ m val (.agg ds) := by
  obtain ⟨z, hz, hzl⟩ := (ht.at hl).run_zero w
  have hu := (ht.at hl).run_und w
  rw [hd] at hu
  obtain ⟨ls, hm, hml, hmj⟩ := mapM_fields ht w fs.toList (ht.fields hl hd)
  obtain ⟨hpl, hpj⟩ := plan_spec hp
  have hzr : RepL Γ m i.zero (i.zero.map ofVal) := ⟨by simp, fun j v x hv hx => by
    rw [List.getElem?_map, hv] at hx; cases hx; exact ofVal_rep _ _ _⟩
  have hfill := fill_run (place := fun k => ls.toArray[k]?) l ((ps.map fun (i, x) => (i, a.eval x)).toList) i.zero _ ds hzr hf (by simp [hpl]) fun j o s x f v ho hv => by
    simp only [Array.toList_map, List.getElem?_map] at hv
    cases hq : ps.toList[j]? with
    | none => rw [hq] at hv; simp at hv
    | some q =>
      obtain ⟨f', x'⟩ := q
      rw [hq] at hv
      simp at hv
      obtain ⟨rfl, rfl⟩ := hv
      obtain ⟨g, ig, hg, hig, rfl, rfl, rfl⟩ := hpj j o s x f' x' ho hq
      obtain ⟨ig', hig', hls⟩ := hmj f' g (by simpa using hg)
      rw [hig] at hig'; cases hig'
      exact ⟨by simpa using hls, h.eval x' (hok (f', x') (List.mem_of_getElem? hq))⟩
  obtain ⟨vs, hvs, hvr⟩ := hfill
  refine ⟨.agg vs.toArray, ?_, hvr.agg⟩
  have hm' : (fs.mapM fun f => do pure (f.offset, ← sizeOf f.type) : Sem (Array (Nat × Nat))).run c.P w = .ok ls.toArray w := by
    rw [← Array.toArray_toList (xs := fs), List.mapM_toArray]
    simp only [Sem.run_map, hm, Result.andThen_ok]
  have hzc : z.cells = i.zero.toArray := by rw [← hzl]
  unfold Instr.build
  simp only [Sem.run_bind, hz, Result.andThen_ok, hu, hm', hzc]
  rw [hvs]
  simp


/-! ### pieces -/
theorem sliceBound_run {P : Program} {w : World} {k : IntKind} {n : Int} {y : Nat} {code : BoundsCode} (h0 : 0 ≤ n) (h1 : n ≤ y) : (Instr.sliceBound (.int k n) y code).run P w = .ok n.toNat w := by
  simp [Instr.sliceBound, asIntOf, h0, h1]

/-- A bound, asL an answer and asL a value. -/
inductive Bd (Γ : Gam) (m : Nm) : Option AV → Option Value → Prop
  | no : Bd Γ m none none
  | yes {v c} : Rep Γ m v c → Bd Γ m (some c) (some v)

theorem sliceStr_run {P : Program} {tab : Tab} (ht : TabOk P tab) {w : World} {Γ m} {l : List UInt8} {lo hi : Option AV} {lv hv : Option Value} (hlo : Bd Γ m lo lv) (hhi : Bd Γ m hi hv) {c : AV} (h : sliceStr l lo hi = some c)
    {t : TypeId} {i : TyI} (hl : look tab t = some i) (hd : i.d = .string) : ∃ val, (Instr.sliceAt t (.string ⟨l.toArray⟩) lv hv none).run P w = .ok val w ∧ Rep Γ m val c := by
  have hu := (ht.at hl).run_und w
  rw [hd] at hu
  have hs : ByteArray.size ⟨l.toArray⟩ = l.length := by simp [ByteArray.size]
  have he : ∀ x y : Nat, (⟨l.toArray⟩ : ByteArray).extract x y = ⟨((l.take y).drop x).toArray⟩ := fun x y => by
    apply ByteArray.ext
    simp [List.extract_eq_take_drop, List.drop_take]
  unfold sliceStr at h
  split at h
  · cases h; cases hlo; cases hhi
    refine ⟨.string ⟨l.toArray⟩, ?_, .s⟩
    have := he 0 l.length
    simp [Instr.sliceAt, Instr.slice, Instr.sliceBounds, hu] at this ⊢
  · cases hhi
    split at h <;> cases h
    rename_i k x hx
    cases hlo with | yes hr => ?_
    cases hr
    refine ⟨.string ⟨(l.drop x.toNat).toArray⟩, ?_, .s⟩
    have := he x.toNat l.length
    simp [Instr.sliceAt, Instr.slice, Instr.sliceBounds, hu, hs, sliceBound_run hx.1 hx.2]
    simpa using this
  · cases hlo
    split at h <;> cases h
    rename_i k y hx
    cases hhi with | yes hr => ?_
    cases hr
    refine ⟨.string ⟨(l.take y.toNat).toArray⟩, ?_, .s⟩
    have := he 0 y.toNat
    simp [Instr.sliceAt, Instr.slice, Instr.sliceBounds, hu, hs, sliceBound_run hx.1 hx.2]
    simpa using this
  · split at h <;> cases h
    rename_i k x k' y hx
    cases hlo with | yes hr => ?_
    cases hhi with | yes hr' => ?_
    cases hr; cases hr'
    refine ⟨.string ⟨((l.take y.toNat).drop x.toNat).toArray⟩, ?_, .s⟩
    have := he x.toNat y.toNat
    have hy : y.toNat ≤ l.length := by omega
    simp [Instr.sliceAt, Instr.slice, Instr.sliceBounds, hu, hs, sliceBound_run (w := w) (P := P) (k := k') (code := .sliceAlen) (show 0 ≤ y by omega) hx.2.2, sliceBound_run (w := w) (P := P) (k := k) (code := .sliceB) hx.1 (show x ≤ ((y.toNat : Nat) : Int) by omega)]
    simpa using this
  · cases h

theorem sh_piece {Γ m v sz rows} (h : Rep Γ m v (.sh sz rows)) (x y : Nat) (hxy : x ≤ y) (hy : y ≤ rows.length) :
    ∃ a len cap, v = .slice a len cap ∧ len = rows.length ∧ y ≤ cap ∧ Rep Γ m (.slice (if cap = x then a else a.map (·.add (x * sz))) (y - x) (cap - x)) (.sh sz ((rows.take y).drop x)) := by
  rcases h.sh_inv with ⟨a, rfl, rfl⟩ | ⟨a, cap, vs, rfl, h2, h3, h4, h5, h6, h7⟩
  · simp at hy; subst hy
    obtain rfl : x = 0 := by omega
    exact ⟨a, 0, 0, rfl, rfl, Nat.le_refl _, by simpa using Rep.sh0⟩
  · refine ⟨some a, _, cap, rfl, rfl, by omega, ?_⟩
    have hlen : ((rows.take y).drop x).length = y - x := by simp; omega
    by_cases e : cap = x
    · have e0 : y - x = 0 := by omega
      have e1 : cap - x = 0 := by omega
      have e2 : (rows.take y).drop x = [] := by rw [← List.length_eq_zero_iff, hlen, e0]
      rw [e0, e1, e2]
      exact .sh0
    · rw [if_neg e]
      refine .sh ((vs.take (y * sz)).drop (x * sz)) (by omega) (by omega) hlen (fun r hr => h4 r (List.mem_of_mem_take (List.mem_of_mem_drop hr))) ?_ (fun j v hv => ?_) (fun v hv => h6 v (List.mem_of_mem_take (List.mem_of_mem_drop hv))) ?_
      · rw [flat_drop (fun r hr => h4 r (List.mem_of_mem_take hr)), flat_take h4]
        simp [h7.1]
      · rw [List.getElem?_drop, List.getElem?_take] at hv
        split at hv
        · rw [add_add]; exact h5 _ _ hv
        · cases hv
      · rw [flat_drop (fun r hr => h4 r (List.mem_of_mem_take hr)), flat_take h4]
        exact ((h7.take _).drop _).2

theorem sliceRows_run {P : Program} {tab : Tab} (ht : TabOk P tab) {w : World} {Γ m v sz rows} (h : Rep Γ m v (.sh sz rows)) {lo hi : Option AV} {lv hv : Option Value} (hlo : Bd Γ m lo lv) (hhi : Bd Γ m hi hv) {c : AV} (hc : sliceRows sz rows lo hi = some c)
    {t e : TypeId} {i j : TyI} (hl : look tab t = some i) (hd : i.d = .slice e) (he : look tab e = some j) (hsz : j.size = sz) : ∃ val, (Instr.sliceAt t v lv hv none).run P w = .ok val w ∧ Rep Γ m val c := by
  have hu := (ht.at hl).run_und w
  rw [hd] at hu
  have hs := (ht.at he).run_size w
  rw [hsz] at hs
  have go : ∀ x y : Nat, x ≤ y → y ≤ rows.length → (∀ len cap : Nat, len = rows.length → y ≤ cap → (Instr.sliceBounds true len cap lv hv none).run P w = .ok (x, y, cap) w) →
      ∃ val, (Instr.sliceAt t v lv hv none).run P w = .ok val w ∧ Rep Γ m val (.sh sz ((rows.take y).drop x)) := fun x y hxy hy hb => by
    obtain ⟨a, len, cap, rfl, hlen, hcap, hr⟩ := sh_piece h x y hxy hy
    exact ⟨_, by simp [Instr.sliceAt, Instr.slice, hu, hb len cap hlen hcap, hs], hr⟩
  unfold sliceRows at hc
  split at hc
  · cases hc; cases hlo; cases hhi
    have := go 0 rows.length (Nat.zero_le _) (Nat.le_refl _) (fun len cap hlen _ => by simp [Instr.sliceBounds, hlen])
    simpa using this
  · cases hhi
    split at hc <;> cases hc
    rename_i hx
    cases hlo with | yes hr => ?_
    cases hr
    rename_i k x
    have := go x.toNat rows.length (by omega) (Nat.le_refl _) (fun len cap hlen _ => by
      subst hlen
      simp [Instr.sliceBounds, sliceBound_run (w := w) (P := P) (k := k) (code := .sliceB) hx.1 hx.2])
    simpa using this
  · cases hlo
    split at hc <;> cases hc
    rename_i hx
    cases hhi with | yes hr => ?_
    cases hr
    rename_i k y
    have := go 0 y.toNat (Nat.zero_le _) (by omega) (fun len cap hlen hcap => by
      simp [Instr.sliceBounds, sliceBound_run (w := w) (P := P) (k := k) (code := .sliceAcap) hx.1 (show y ≤ (cap : Int) by omega)])
    simpa using this
  · split at hc <;> cases hc
    rename_i hx
    cases hlo with | yes hr => ?_
    cases hhi with | yes hr' => ?_
    cases hr; cases hr'
    rename_i k x k' y
    exact go x.toNat y.toNat (by omega) (by omega) (fun len cap hlen hcap => by
      simp [Instr.sliceBounds, sliceBound_run (w := w) (P := P) (k := k') (code := .sliceAcap) (show 0 ≤ y by omega) (show y ≤ (cap : Int) by omega), sliceBound_run (w := w) (P := P) (k := k) (code := .sliceB) hx.1 (show x ≤ ((y.toNat : Nat) : Int) by omega)])
  · cases hc

end Go.Proofs.Ytocppeifkjdeiaa.Mv
